/- Frames: what code does to a frame's values and roots. Rules for regions, sequences, choices, blocks, rounds. -/
import Derived.Test.YtkijdbljnefeaaaGreatDoorPVMB
set_option linter.unusedSimpArgs false
set_option linter.unusedVariables false
namespace Go.VM
structure FS where
  env : Nat → VV
  st : St
  nx : Nat
/-- Memory and the frame's slots stand for 's'; the numbers below 'K' are the parameters' own. -/
structure At (n K : Nat) (s : FS) (w : World) (ow : Own) (bs : Base) (a : Act) : Prop where
  rel : Rel w ow bs s.st (fun x => s.nx ≤ x)
  env : RelE w ow bs s.st (fun x => s.nx ≤ x) s.env a
  size : a.tmps.size = n
  defers : a.defers = []
  old : K ≤ s.nx
/-- What has stayed since then. -/
structure Since (K : Nat) (w : World) (ow : Own) (bs : Base) (w' : World) (ow' : Own) (bs' : Base) : Prop where
  steady : Steady w ow w' ow'
  base : ∀ r, r < K → bs' (r, []) = bs (r, [])
theorem Since.refl (K : Nat) (w ow bs) : Since K w ow bs w ow bs := ⟨Steady.refl _ _, fun _ _ => rfl⟩
theorem Since.trans {K w ow bs w1 ow1 bs1 w2 ow2 bs2} (h : Since K w ow bs w1 ow1 bs1) (k : Since K w1 ow1 bs1 w2 ow2 bs2) : Since K w ow bs w2 ow2 bs2 :=
  ⟨h.steady.trans k.steady, fun r hr => (k.base r hr).trans (h.base r hr)⟩
def Post (n K : Nat) (Q : Exit → FS → Prop) (w : World) (ow : Own) (bs : Base) (e : Exit) (a' : Act) (w' : World) : Prop :=
  ∃ s' ow' bs', Q e s' ∧ Since K w ow bs w' ow' bs' ∧ At n K s' w' ow' bs' a'
/-- From 's' on, code ends so that 'Q' holds. -/
def VW (P : Program) (n K : Nat) (c : Code) (Q : Exit → FS → Prop) (s : FS) : Prop :=
  ∀ w ow bs a, At n K s w ow bs a → c.wp P (Post n K Q w ow bs) a w
theorem Post.mono {n K : Nat} {Q Q' : Exit → FS → Prop} {w w1 ow ow1 bs bs1 e a' w'} (hs : Since K w ow bs w1 ow1 bs1) (hq : ∀ s, Q e s → Q' e s) (h : Post n K Q w1 ow1 bs1 e a' w') : Post n K Q' w ow bs e a' w' := by
  obtain ⟨s', ow', bs', h1, h2, h3⟩ := h
  exact ⟨s', ow', bs', hq _ h1, hs.trans h2, h3⟩
theorem vw_mono {P : Program} {n K : Nat} {c : Code} {Q Q' : Exit → FS → Prop} {s : FS} (h : VW P n K c Q s) (hq : ∀ e s, Q e s → Q' e s) : VW P n K c Q' s :=
  fun w ow bs a ha => wp_mono (h w ow bs a ha) fun e a' w' hp => hp.mono (Since.refl _ _ _ _) (hq e)
theorem vw_skip {P : Program} {n K : Nat} {Q : Exit → FS → Prop} {s : FS} (h : Q .normal s) : VW P n K .skip Q s :=
  fun w ow bs a ha => wp_skip ⟨s, ow, bs, h, Since.refl _ _ _ _, ha⟩
theorem vw_exit {P : Program} {n K : Nat} {id : Nat} {Q : Exit → FS → Prop} {s : FS} (h : Q (.exit id) s) : VW P n K (.exit id) Q s :=
  fun w ow bs a ha => wp_exit ⟨s, ow, bs, h, Since.refl _ _ _ _, ha⟩
theorem vw_ret {P : Program} {n K : Nat} {Q : Exit → FS → Prop} {s : FS} (h : Q .ret s) : VW P n K .ret Q s :=
  fun w ow bs a ha => wp_ret ⟨s, ow, bs, h, Since.refl _ _ _ _, ha⟩
/-- What comes next, where code runs through. -/
def thenV (K : FS → Prop) (Q : Exit → FS → Prop) : Exit → FS → Prop
  | .normal, s => K s
  | e, s => Q e s
theorem vw_seq {P : Program} {n K : Nat} {x y : Code} {Q : Exit → FS → Prop} {s : FS} (h : VW P n K x (thenV (VW P n K y Q) Q) s) : VW P n K (.seq x y) Q s := by
  intro w ow bs a ha
  refine wp_seq (wp_mono (h w ow bs a ha) ?_)
  rintro e a' w' ⟨s', ow', bs', hq, hs, ha'⟩
  cases e with
  | normal => exact wp_mono (hq w' ow' bs' a' ha') fun e a'' w'' hp => hp.mono hs fun _ h => h
  | _ => exact ⟨s', ow', bs', hq, hs, ha'⟩
theorem eval_rel {P : Program} {n K : Nat} {s : FS} {w ow bs a} (ha : At n K s w ow bs a) (t : TypeId) (x : Operand) : RelV w ow bs s.st (fun x => s.nx ≤ x) (ev P s.env t x) (a.eval x) := ev_rel ha.env t x
theorem vw_cond {P : Program} {n K : Nat} {c : Operand} {x y : Code} {t : Bool} {Q : Exit → FS → Prop} {s : FS} (hc : ev P s.env 0 c = .c (.bool t)) (h1 : t = true → VW P n K x Q s) (h2 : t = false → VW P n K y Q s) : VW P n K (.cond c x y) Q s := by
  intro w ow bs a ha
  have := eval_rel (P := P) ha 0 c
  rw [hc] at this
  exact wp_cond_split (rel_bool this) (fun e => h1 e w ow bs a ha) (fun e => h2 e w ow bs a ha)
def blockV (id : Nat) (Q : Exit → FS → Prop) : Exit → FS → Prop
  | .exit i, s => if i = id then Q .normal s else Q (.exit i) s
  | e, s => Q e s
theorem vw_block {P : Program} {n K : Nat} {id : Nat} {c : Code} {Q : Exit → FS → Prop} {s : FS} (h : VW P n K c (blockV id Q) s) : VW P n K (.block id c) Q s := by
  intro w ow bs a ha
  refine wp_block (wp_mono (h w ow bs a ha) ?_)
  rintro e a' w' ⟨s', ow', bs', hq, hs, ha'⟩
  cases e with
  | exit i =>
    simp only [Exit.inBlock,blockV] at hq ⊢
    split at hq
    · rename_i e; simp only [e,if_true]; exact ⟨s', ow', bs', hq, hs, ha'⟩
    · rename_i e; simp only [e,if_false]; exact ⟨s', ow', bs', hq, hs, ha'⟩
  | _ => exact ⟨s', ow', bs', hq, hs, ha'⟩
/-- Rounds: 'I m' holds at the head, and 'm' falls from round to round. -/
theorem vw_loop {P : Program} {n K : Nat} {c : Code} {Q : Exit → FS → Prop} (I : Nat → FS → Prop) (round : ∀ m s, I m s → VW P n K c (thenV (fun s' => ∃ m', m' < m ∧ I m' s') Q) s) {m : Nat} {s : FS} (h0 : I m s) : VW P n K (.loop c) Q s := by
  intro w0 ow0 bs0 a0 ha0 b k cs
  have key : ∀ m s w ow bs a, I m s → Since K w0 ow0 bs0 w ow bs → At n K s w ow bs a → ∃ e a' w', Post n K Q w0 ow0 bs0 e a' w' ∧ Arrives P (lone (b.at a (.code c :: .inLoop c :: k)) cs w) b k cs e a' w' := by
    intro m
    induction m using Nat.strongRecOn with
    | _ m ih =>
      intro s w ow bs a hI hs ha
      obtain ⟨e, a1, w1, ⟨s1, ow1, bs1, hq, hs1, ha1⟩, harr⟩ := round m s hI w ow bs a ha b (.inLoop c :: k) cs
      have post : e ≠ .normal → Post n K Q w0 ow0 bs0 e a1 w1 := fun hne => ⟨s1, ow1, bs1, by cases e <;> first | exact absurd rfl hne | exact hq, hs.trans hs1, ha1⟩
      cases e with
      | normal =>
        obtain ⟨m', hlt, hI'⟩ := hq
        obtain ⟨e2, a2, w2, hq2, harr2⟩ := ih m' hlt s1 w1 ow1 bs1 a1 hI' (hs.trans hs1) ha1
        exact ⟨e2, a2, w2, hq2, .of_steps (Steps.trans harr (.one step_inLoop)) harr2⟩
      | _ => exact ⟨_, a1, w1, post (by simp), .pass (x := .inLoop c) rfl (fun _ _ => .inl (by simp)) harr⟩
  obtain ⟨e, a', w', hq, harr⟩ := key m s w0 ow0 bs0 a0 h0 (Since.refl _ _ _ _) ha0
  exact ⟨e, a', w', hq, .of_steps (.one step_loop) harr⟩
/-! ### one operation -/
def minus (fr : Nat → Prop) (fid : Nat) : Nat → Prop := fun y => fr y ∧ ¬ Mine fid y
/-- Wherever values and roots are these, the operation has that effect. -/
def OpOk (P : Program) (fid : Nat) (o : Oper) (env : Nat → VV) (st : St) (e : Eff) : Prop :=
  ∀ w ow bs fr a, Rel w ow bs st fr → RelE w ow bs st fr env a → Room fr fid → ∀ (next : Act → World → Prop) (Q : Exit → Act → World → Prop),
    (∀ val w' ow' bs', Steady w ow w' ow' → Rel w' ow' bs' (st.ups e.ups) (minus fr fid) → RelV w' ow' bs' (st.ups e.ups) (minus fr fid) e.v val → Quiet bs st fr bs' (st.ups e.ups) (minus fr fid) → next (a.put o.dst val) w') →
    o.wp P a w next Q
theorem vop_ok {P : Program} {fid : Nat} {o : Oper} {env : Nat → VV} {st : St} {e : Eff} (h : vop P fid o env st = some e) : OpOk P fid o env st e := by
  intro w ow bs fr a hr he hroom next Q hk
  obtain ⟨val, w', ow', bs', h1, h2, h3, h4, h5⟩ := vop_sound hr he hroom h
  have hn := hk val w' ow' bs' h4 h2 h3 h5
  unfold Oper.wp
  rcases h1 with h1 | ⟨h1, rfl⟩
  · rw [h1, Oper.upon_value]; exact hn
  · rw [h1, Oper.upon_skip]; exact hn
/-- Is an operation wanted? 'none': we cannot tell. -/
def wantedV (ops : Array Oper) (o : Oper) (env : Nat → VV) : Option Bool :=
  match o.guard with
  | none => some true
  | some (j, want) =>
    match (ops[j]?).bind (·.dst) with
    | none => some false
    | some d =>
      match env d with
      | .c (.bool b) => some (b == want)
      | .tup _ => some false
      | _ => none
theorem wantedV_run {w ow bs st fr} {env : Nat → VV} {a : Act} (he : RelE w ow bs st fr env a) {ops : Array Oper} {o : Oper} {t : Bool} (h : wantedV ops o env = some t) (hd : ∀ (j : Nat) o' d, ops[j]? = some o' → o'.dst = some d → d < a.tmps.size) :
    Region.wanted o (yielded ops a.tmps) = t := by
  unfold wantedV at h
  unfold Region.wanted
  cases hg : o.guard with
  | none => rw [hg] at h; simpa using h
  | some g =>
    obtain ⟨j, want⟩ := g
    rw [hg] at h
    simp only at h ⊢
    cases hj : ops[j]? with
    | none =>
      simp only [hj,Option.bind_none,Option.some.injEq] at h
      subst h
      simp [yielded,hj]
    | some o' =>
      cases hd' : o'.dst with
      | none =>
        simp only [hj,Option.bind_some,hd',Option.some.injEq] at h
        subst h
        simp [yielded,hj,hd']
      | some d =>
        simp only [hj,Option.bind_some,hd'] at h
        have hlt := hd j o' d hj hd'
        have hv := he d
        rw [Array.getD_eq_getD_getElem?, Array.getElem?_eq_getElem hlt] at hv
        simp only [Option.getD_some] at hv
        split at h
        · rename_i b hb
          rw [hb] at hv
          have := rel_bool hv
          simp only [Option.some.injEq] at h
          subst h
          simp [yielded,hj,hd',Array.getElem?_eq_getElem hlt,this]
        · rename_i cs hb
          rw [hb] at hv
          simp only [Option.some.injEq] at h
          subst h
          generalize hx : a.tmps[d] = x at hv
          cases hv with
          | tup => simp [yielded,hj,hd',Array.getElem?_eq_getElem hlt,hx]
        · cases h
def dstOk (n : Nat) (ops : List Oper) : Bool := ops.all fun o => match o.dst with | some d => decide (d < n) | none => true
theorem RelE.mono {w w' ow ow' bs bs' st st' fr fr' env a} (hk : Kept w ow w' ow') (hq : Quiet bs st fr bs' st' fr') (h : RelE w ow bs st fr env a) : RelE w' ow' bs' st' fr' env a := fun t => (h t).mono hk hq
theorem RelE.put {w ow bs st fr env a} (h : RelE w ow bs st fr env a) {dst : Option Tmp} {v : VV} {val : Value} (hv : RelV w ow bs st fr v val) (hd : ∀ d, dst = some d → d < a.tmps.size) : RelE w ow bs st fr (dstE env dst v) (a.put dst val) := by
  intro t
  cases dst with
  | none => exact h t
  | some d =>
    simp only [dstE,Act.put,setE]
    have hlt := hd d rfl
    by_cases e : t = d
    · subst e
      simpa [Array.getD_eq_getD_getElem?, Array.getElem?_setIfInBounds_self_of_lt hlt] using hv
    · simp only [e,if_false,Array.getD_eq_getD_getElem?]
      rw [Array.getElem?_setIfInBounds_ne (fun x => e x.symm), ← Array.getD_eq_getD_getElem?]
      exact h t
theorem put_size (a : Act) (dst : Option Tmp) (v : Value) : (a.put dst v).tmps.size = a.tmps.size := by cases dst <;> simp [Act.put]
theorem put_defers (a : Act) (dst : Option Tmp) (v : Value) : (a.put dst v).defers = a.defers := by cases dst <;> rfl
/-- The operations of a region, one behind the other. -/
def runL (P : Program) (ops : Array Oper) (nx : Nat) : Nat → List Oper → (Nat → VV) → St → ((Nat → VV) → St → Prop) → Prop
  | _, [], env, st, K => K env st
  | i, o :: l, env, st, K =>
    match wantedV ops o env with
    | some true => ∃ e, OpOk P (nx + 1024 * i) o env st e ∧ runL P ops nx (i + 1) l (dstE env o.dst e.v) (st.ups e.ups) K
    | some false => runL P ops nx (i + 1) l (dstE env o.dst (.tup [])) st K
    | none => False
theorem runL_sound {P : Program} {ops : Array Oper} {nx n K : Nat} {Q : Exit → FS → Prop} (hd : dstOk n ops.toList = true) : ∀ (l : List Oper) (i : Nat) {env : Nat → VV} {st : St} {w0 : World} {ow0 : Own} {bs0 : Base} {w ow bs a}, K ≤ nx → ops.toList.drop i = l → i + l.length = ops.size →
    runL P ops nx i l env st (fun env st => Q .normal ⟨env, st, nx + 1024 * ops.size⟩) → Since K w0 ow0 bs0 w ow bs → Rel w ow bs st (fun x => nx + 1024 * i ≤ x) → RelE w ow bs st (fun x => nx + 1024 * i ≤ x) env a → a.tmps.size = n → a.defers = [] →
    wpOps P ops (Post n K Q w0 ow0 bs0) (List.range' i l.length) a w
  | [], i, env, st, w0, ow0, bs0, w, ow, bs, a, hK, hdrop, hlen, h, hs, hr, he, hsz, hdf => by
    simp only [List.length_nil,Nat.add_zero] at hlen
    subst hlen
    exact ⟨⟨env, st, nx + 1024 * ops.size⟩, ow, bs, h, hs, hr, he, hsz, hdf, by show K ≤ nx + 1024 * ops.size; omega⟩
  | o :: l, i, env, st, w0, ow0, bs0, w, ow, bs, a, hK, hdrop, hlen, h, hs, hr, he, hsz, hdf => by
    have hoi : ops.toList[i]? = some o := by
      have : (ops.toList.drop i)[0]? = some o := by rw [hdrop]; rfl
      simpa using this
    have hoi' : ops[i]? = some o := by simpa using hoi
    have hdst : ∀ (j : Nat) o' d, ops[j]? = some o' → o'.dst = some d → d < a.tmps.size := by
      intro j o' d hj hd'
      have hm : o' ∈ ops.toList := by
        have : ops.toList[j]? = some o' := by simpa using hj
        exact List.mem_of_getElem? this
      have := List.all_eq_true.1 hd o' hm
      simp only [hd',decide_eq_true_eq] at this
      rw [hsz]
      exact this
    have hnext : ops.toList.drop (i + 1) = l := by
      have : (ops.toList.drop i).drop 1 = l := by rw [hdrop]; rfl
      simpa [List.drop_drop] using this
    simp only [List.length_cons] at hlen
    simp only [List.length_cons,List.range'_succ,wpOps,hoi']
    simp only [runL] at h
    split at h
    · rename_i hw
      obtain ⟨e, hok, hrest⟩ := h
      rw [wantedV_run he hw hdst]
      simp only [if_true]
      refine .inl (hok w ow bs _ a hr he (fun c hc => by omega) _ _ fun val w' ow' bs' h1 h2 h3 h4 => ?_)
      have hsub : ∀ x, nx + 1024 * (i + 1) ≤ x → minus (fun x => nx + 1024 * i ≤ x) (nx + 1024 * i) x := by
        intro x hx
        exact ⟨by omega, fun hm => by simp only [Mine] at hm; omega⟩
      exact runL_sound hd l (i + 1) hK hnext (by omega) hrest (hs.trans ⟨h1, fun r hr => h4.base r (fun hx => by omega)⟩) (h2.shrink hsub)
        (((he.mono h1.kept h4).put h3 (fun d hd' => hdst i o d hoi' hd')).mono (Kept.refl _ _) (Quiet.shrink hsub)) (by rw [put_size]; exact hsz) (by rw [put_defers]; exact hdf)
    · rename_i hw
      rw [wantedV_run he hw hdst]
      simp only [Bool.false_eq_true,if_false]
      have hsub : ∀ x, nx + 1024 * (i + 1) ≤ x → nx + 1024 * i ≤ x := by intro x hx; omega
      refine runL_sound hd l (i + 1) hK hnext (by omega) h hs (hr.shrink hsub) ((he.put (v := .tup []) (val := undef) ?_ (fun d hd' => hdst i o d hoi' hd')).mono (Kept.refl _ _) (Quiet.shrink hsub)) (by rw [put_size]; exact hsz) (by rw [put_defers]; exact hdf)
      exact .tup (vs := #[]) rfl (fun k x hx => by simp at hx)
    · exact h.elim
theorem vw_region {P : Program} {n K id : Nat} {ops : Array Oper} {Q : Exit → FS → Prop} {s : FS} (hd : dstOk n ops.toList = true) (h : runL P ops s.nx 0 ops.toList s.env s.st (fun env st => Q .normal ⟨env, st, s.nx + 1024 * ops.size⟩)) :
    VW P n K (.region id ops false) Q s := by
  intro w ow bs a ha
  refine wp_region ?_
  have := runL_sound (w0 := w) (ow0 := ow) (bs0 := bs) hd ops.toList 0 ha.old (by simp) (by simp) h (Since.refl _ _ _ _) (by simpa using ha.rel) (by simpa using ha.env) ha.size ha.defers
  rw [List.range_eq_range']
  simpa using this
end Go.VM
/- What is handed over to a call, or back from it: cells, taken out of the frame's roots. -/
namespace Go.VM
/-- A cell that is handed over: a plain value, a variable of its own, a variable that is only read, a function. -/
inductive CT where
  | v (y : T)
  | box (xs : List T)
  | ref (cs : List T)
  | fn (f : Nat) (caps : List (List T))
  deriving Inhabited
def renOw (ow : Own) (r t : Nat) : Own := fun b => match ow b with | some (r', q) => if r' = r then some (t, q) else some (r', q) | none => none
def renBase (bs : Base) (r t : Nat) : Base := fun ℓ => if ℓ.1 = t then bs (r, ℓ.2) else bs ℓ
/-- A root under another number. -/
theorem Rel.rename {w ow bs st fr} (h : Rel w ow bs st fr) {r t : Nat} {R : Root} (hr : st r = some R) (ht : fr t) :
    Rel w (renOw ow r t) (renBase bs r t) ((st.put r none).put t (some { R with log := [] })) (fun x => fr x ∧ x ≠ t) ∧ Kept w ow w (renOw ow r t) ∧
    Quiet bs st fr (renBase bs r t) ((st.put r none).put t (some { R with log := [] })) (fun x => fr x ∧ x ≠ t) := by
  have hrt : r ≠ t := fun e => by rw [e, h.free t ht] at hr; cases hr
  have hk : Kept w ow w (renOw ow r t) := fun b hb _ => ⟨rfl, by simp [renOw,hb]⟩
  refine ⟨⟨fun x R' hx => ?_, fun x R' hx hb => ?_, fun b ℓ hb => ?_, fun x hx => ?_⟩, hk, ?_⟩
  · by_cases e : x = t
    · subst e
      simp only [St.put_eq,Option.some.injEq] at hx
      subst hx
      have := h.root r R hr
      have e2 : renBase bs r x (x, []) = bs (r, []) := by simp [renBase]
      rw [e2]
      exact this.move hk ⟨fun b p hb => ⟨rfl, by simp [renOw,hb]⟩, fun p => by simp [renBase]⟩
    · rw [St.put_ne _ _ e] at hx
      by_cases e1 : x = r
      · subst e1; simp at hx
      · rw [St.put_ne _ _ e1] at hx
        have e2 : renBase bs r t (x, []) = bs (x, []) := by simp [renBase,e]
        rw [e2]
        exact (h.root x R' hx).move hk ⟨fun b p hb => ⟨rfl, by simp [renOw,hb,e1]⟩, fun p => by simp [renBase,e]⟩
  · by_cases e : x = t
    · subst e
      simp only [St.put_eq,Option.some.injEq] at hx
      subst hx
      simpa [renBase] using h.box r R hr hb
    · rw [St.put_ne _ _ e] at hx
      by_cases e1 : x = r
      · subst e1; simp at hx
      · rw [St.put_ne _ _ e1] at hx
        simpa [renBase, e] using h.box x R' hx hb
  · simp only [renOw] at hb
    split at hb
    · rename_i r' q hq
      have := h.own b _ hq
      split at hb
      · simp only [Option.some.injEq] at hb; subst hb; exact ⟨fun x => x.2 rfl, this.2⟩
      · simp only [Option.some.injEq] at hb; subst hb; exact ⟨fun x => this.1 x.1, this.2⟩
    · cases hb
  · rw [St.put_ne _ _ hx.2]
    by_cases e1 : x = r
    · subst e1; simp
    · rw [St.put_ne _ _ e1]; exact h.free x hx.1
  · refine (Quiet.drop r).trans (Quiet.new ht (fun ℓ hℓ => by simp [renBase,hℓ]))
def takeC (st : St) : VV → Option (CT × Ups)
  | .ptr r [] _ 0 0 => (match st r with | some R => if R.box then (match R.rows with | [row] => some (.box row, [(r, none)]) | _ => none) else none | none => none)
  | .fn f [] => some (.fn f [], [])
  | x => (takeV st x).map fun yu => (.v yu.1, yu.2)
def takeCs (st : St) : List VV → Option (List CT × Ups)
  | [] => some ([], [])
  | x :: xs =>
    match takeC st x with
    | some (y, u) => (match takeCs (st.ups u) xs with | some (ys, us) => some (y :: ys, u ++ us) | none => none)
    | none => none
def HoldsC (w : World) (ow : Own) (bs : Base) (st : St) (t : Nat) (y : CT) (v : Value) : Prop :=
  match y with
  | .v y => Holds w ow bs st t y v
  | .box xs => st t = some ⟨true, xs.length, [xs], []⟩ ∧ ∃ (a : Addr) (l cap : Nat), (bs (t, [])).2 = .slice (some a) l cap ∧ v = .pointer (some ⟨a.block, a.off, none⟩)
  | .fn f caps => caps = [] ∧ v = .func (.func f) #[] #[]
  | .ref _ => False
theorem HoldsC.mono {w w' ow ow' bs bs' st st' t y v} (h : HoldsC w ow bs st t y v) (hk : Kept w ow w' ow') (hs : st' t = st t) (hb : bs' (t, []) = bs (t, [])) : HoldsC w' ow' bs' st' t y v := by
  cases y with
  | v y => exact Holds.mono h hk hs hb
  | box xs => obtain ⟨h1, h2⟩ := h; exact ⟨hs.trans h1, by rw [hb]; exact h2⟩
  | fn f caps => exact h
  | ref cs => exact h
theorem Rel.rowlen {w ow bs st fr} (h : Rel w ow bs st fr) {r R row} (hr : st r = some R) (hrow : R.rows = [row]) : row.length = R.sz := by
  have := h.root r R hr
  rw [hrow] at this
  generalize (bs (r, [])).2 = v at this
  cases this with
  | ro h => cases h
  | list base spot own blk free hlen hcap fits rows cells => exact rows 0 row rfl
theorem takeC_sound {w ow0 bs0 st0} {fr0 : Nat → Prop} {owA bsA stA} {frA : Nat → Prop} {stV : St} {x : VV} {v : Value} {y : CT} {u : Ups} {t : Nat} (h : Rel w owA bsA stA frA) (ht : frA t)
    (agree : ∀ r, ¬ fr0 r → stA r = stV r) (hq : Quiet bs0 st0 fr0 bsA stA frA) (hk : Kept w ow0 w owA) (hx : takeC stV x = some (y, u)) (rx : RelV w ow0 bs0 st0 fr0 x v) :
    ∃ owB bsB stB, Rel w owB bsB stB (fun x => frA x ∧ x ≠ t) ∧ Kept w owA w owB ∧ Quiet bsA stA frA bsB stB (fun x => frA x ∧ x ≠ t) ∧ (∀ r, ¬ fr0 r → stB r = (stV.ups u) r) ∧
      HoldsC w owB bsB stB t y v ∧ (∀ r, fr0 r → r ≠ t → stB r = stA r) ∧ (∀ r R', (r, R') ∈ u → ¬ fr0 r) := by
  unfold takeC at hx
  split at hx
  · rename_i r m
    split at hx
    · rename_i R hR
      split at hx
      · rename_i hbox
        split at hx
        · rename_i row hrow
          simp only [Option.some.injEq,Prod.mk.injEq] at hx
          obtain ⟨rfl, rfl⟩ := hx
          cases rx with
          | ptr hnf hsub hv hm =>
          have hrA : stA r = some R := (agree r hnf).trans hR
          obtain ⟨h1, h2, h3⟩ := h.rename hrA ht
          have hf0 : fr0 t := hq.free t ht
          have hrt : r ≠ t := fun e => hnf (by rw [e]; exact hf0)
          have hsz := h.rowlen hrA hrow
          refine ⟨_, _, _, h1, h2, h3, fun x hx => ?_, ⟨?_, ?_⟩, fun x hx hne => ?_, fun x R' hm => ?_⟩
          · have : x ≠ t := fun e => hx (by rw [e]; exact hf0)
            rw [St.put_ne _ _ this]
            simp only [St.ups_cons,St.ups_nil]
            by_cases e : x = r
            · subst e; simp
            · rw [St.put_ne _ _ e, St.put_ne _ _ e]; exact agree x hx
          · rw [St.put_eq]
            cases R
            simp_all
          · obtain ⟨a, l, cap, e1, e2⟩ := hsub (.inl rfl)
            refine ⟨a, l, cap, ?_, ?_⟩
            · have := hq.base r hnf
              simp only [renBase,if_true]
              rw [this]; exact e1
            · rw [e2]; simp
          · rw [St.put_ne _ _ hne]
            have : x ≠ r := fun e => hnf (by rw [← e]; exact hx)
            rw [St.put_ne _ _ this]
          · simp only [List.mem_singleton,Prod.mk.injEq] at hm
            rw [hm.1]; exact hnf
        · cases hx
      · cases hx
    · cases hx
  · rename_i f
    simp only [Option.some.injEq,Prod.mk.injEq] at hx
    obtain ⟨rfl, rfl⟩ := hx
    cases rx with
    | @fn _ _ vs hl hh =>
      have : vs = #[] := by
        have : vs.size = 0 := by simpa using hl.symm
        exact Array.eq_empty_of_size_eq_zero this
      subst this
      exact ⟨owA, bsA, stA, h.shrink (fun _ h => h.1), Kept.refl _ _, Quiet.shrink (fun _ h => h.1), agree, ⟨rfl, rfl⟩, fun _ _ _ => rfl, fun _ _ hm => by cases hm⟩
  · rw [Option.map_eq_some_iff] at hx
    obtain ⟨⟨y', u'⟩, h1, h2⟩ := hx
    simp only [Prod.mk.injEq] at h2
    obtain ⟨rfl, rfl⟩ := h2
    exact takeV_sound h ht agree hq hk h1 rx
theorem takeCs_sound {w ow0 bs0 st0} {fr0 : Nat → Prop} : ∀ (xs : List VV) (vs : List Value) (ys : List CT) (u : Ups) (t0 : Nat) {owA bsA stA} {frA : Nat → Prop} {stV : St}, Rel w owA bsA stA frA → (∀ k, k < xs.length → frA (t0 + k)) →
    (∀ r, ¬ fr0 r → stA r = stV r) → Quiet bs0 st0 fr0 bsA stA frA → Kept w ow0 w owA → takeCs stV xs = some (ys, u) → xs.length = vs.length →
    (∀ (k : Nat) (x : VV) (v : Value), xs[k]? = some x → vs[k]? = some v → RelV w ow0 bs0 st0 fr0 x v) →
    ∃ owB bsB stB, Rel w owB bsB stB (fun x => frA x ∧ ¬ (t0 ≤ x ∧ x < t0 + xs.length)) ∧ Kept w owA w owB ∧ Quiet bsA stA frA bsB stB (fun x => frA x ∧ ¬ (t0 ≤ x ∧ x < t0 + xs.length)) ∧
      (∀ r, ¬ fr0 r → stB r = (stV.ups u) r) ∧ ys.length = xs.length ∧ (∀ (k : Nat) (y : CT) (v : Value), ys[k]? = some y → vs[k]? = some v → HoldsC w owB bsB stB (t0 + k) y v) ∧
      (∀ r, fr0 r → ¬ (t0 ≤ r ∧ r < t0 + xs.length) → stB r = stA r) ∧ (∀ r R', (r, R') ∈ u → ¬ fr0 r)
  | [], vs, ys, u, t0, owA, bsA, stA, frA, stV, h, ht, agree, hq, hk, hx, hl, rx => by
    simp only [takeCs,Option.some.injEq,Prod.mk.injEq] at hx
    obtain ⟨rfl, rfl⟩ := hx
    exact ⟨owA, bsA, stA, h.shrink (fun _ h => h.1), Kept.refl _ _, Quiet.shrink (fun _ h => h.1), agree, rfl, fun k y v hk' => by simp at hk', fun _ _ _ => rfl, fun _ _ hm => by cases hm⟩
  | x :: xs, vs, ys, u, t0, owA, bsA, stA, frA, stV, h, ht, agree, hq, hk, hx, hl, rx => by
    cases vs with
    | nil => simp at hl
    | cons v vs =>
    simp only [takeCs] at hx
    cases h1 : takeC stV x with
    | none => rw [h1] at hx; cases hx
    | some yu =>
      obtain ⟨y, u1⟩ := yu
      rw [h1] at hx
      simp only at hx
      cases h2 : takeCs (stV.ups u1) xs with
      | none => rw [h2] at hx; cases hx
      | some yus =>
        obtain ⟨ys', u2⟩ := yus
        rw [h2] at hx
        simp only [Option.some.injEq,Prod.mk.injEq] at hx
        obtain ⟨rfl, rfl⟩ := hx
        have ht0 := ht 0 (by simp)
        simp only [Nat.add_zero] at ht0
        obtain ⟨owB, bsB, stB, g1, g2, g3, g4, g5, g6, g7⟩ := takeC_sound h ht0 agree hq hk h1 (rx 0 x v (by simp) (by simp))
        have hq' := hq.trans g3
        have hk' : Kept w ow0 w owB := fun b hb hlt => g2 b (hk b hb hlt).2 hlt |>.imp (fun e => e.trans rfl) id
        obtain ⟨owC, bsC, stC, k1, k2, k3, k4, k5, k6, k7, k8⟩ := takeCs_sound xs vs ys' u2 (t0 + 1) g1 (fun k hk => ⟨by have := ht (k + 1) (by simp; omega); rwa [show t0 + 1 + k = t0 + (k + 1) from by omega], by omega⟩) g4 hq'
          hk' h2 (by simpa using hl) (fun k x' v' hx' hv' => rx (k + 1) x' v' (by simpa using hx') (by simpa using hv'))
        have hsub : ∀ r, (frA r ∧ ¬ (t0 ≤ r ∧ r < t0 + (x :: xs).length)) → (frA r ∧ r ≠ t0) ∧ ¬ (t0 + 1 ≤ r ∧ r < t0 + 1 + xs.length) := by
          intro r hr
          simp only [List.length_cons] at hr
          exact ⟨⟨hr.1, by omega⟩, by omega⟩
        have hf0 : fr0 t0 := hq.free t0 ht0
        refine ⟨owC, bsC, stC, k1.shrink hsub, fun b hb hlt => ?_, (g3.trans k3).trans (Quiet.shrink hsub), fun r hr => by rw [k4 r hr, St.ups_append], by simp [k5], fun k y' v' hy hv => ?_, fun r hr hne => ?_, fun r R' hm => ?_⟩
        · have e1 := g2 b hb hlt
          exact k2 b e1.2 hlt
        · cases k with
          | zero =>
            simp only [List.getElem?_cons_zero,Option.some.injEq] at hy hv
            subst hy; subst hv
            refine g5.mono k2 (k7 _ (by simpa using hf0) (by omega)) ?_
            exact k3.base _ (fun e => e.2 rfl)
          | succ k =>
            have := k6 k y' v' (by simpa using hy) (by simpa using hv)
            rwa [show t0 + 1 + k = t0 + (k + 1) from by omega] at this
        · simp only [List.length_cons] at hne
          rw [k7 r hr (by omega), g6 r hr (by omega)]
        · rcases List.mem_append.1 hm with hm | hm
          · exact g7 r R' hm
          · exact k8 r R' hm
end Go.VM
/- What a function does, as a relation between plain trees: its arguments, its results, and what is given back. -/
namespace Go.VM
/-! ### trees that look at nobody else's memory -/
mutual
def T.clean : T → Bool
  | .list false _ _ => false
  | .list true _ es => cleanRs es
  | .held _ _ _ => false
  | _ => true
def cleanR : List T → Bool
  | [] => true
  | x :: r => x.clean && cleanR r
def cleanRs : List (List T) → Bool
  | [] => true
  | r :: rs => cleanR r && cleanRs rs
end
mutual
/-- As clean; what is held is told by 'H'. -/
def T.fine (H : Value → Nat → List (List T) → Prop) : T → Prop
  | .list false _ _ => False
  | .list true _ es => fineRs H es
  | .held v sz es => H v sz es
  | _ => True
def fineR (H : Value → Nat → List (List T) → Prop) : List T → Prop
  | [] => True
  | x :: r => x.fine H ∧ fineR H r
def fineRs (H : Value → Nat → List (List T) → Prop) : List (List T) → Prop
  | [] => True
  | r :: rs => fineR H r ∧ fineRs H rs
end
mutual
theorem T.fine_of {H : Value → Nat → List (List T) → Prop} : ∀ {x : T}, x.clean = true → x.fine H
  | .list false _ _, h => by simp [T.clean] at h
  | .list true _ es, h => by simp only [T.clean] at h; simp only [T.fine]; exact fineRs_of h
  | .held _ _ _, h => by simp [T.clean] at h
  | .int _ _, _ => trivial
  | .bool _, _ => trivial
  | .str _, _ => trivial
  | .dead, _ => trivial
theorem fineR_of {H : Value → Nat → List (List T) → Prop} : ∀ {r : List T}, cleanR r = true → fineR H r
  | [], _ => trivial
  | x :: r, h => by
    simp only [cleanR,Bool.and_eq_true] at h
    exact ⟨T.fine_of h.1, fineR_of h.2⟩
theorem fineRs_of {H : Value → Nat → List (List T) → Prop} : ∀ {rs : List (List T)}, cleanRs rs = true → fineRs H rs
  | [], _ => trivial
  | r :: rs, h => by
    simp only [cleanRs,Bool.and_eq_true] at h
    exact ⟨fineR_of h.1, fineRs_of h.2⟩
end
mutual
theorem T.fine_imp {H H' : Value → Nat → List (List T) → Prop} (hi : ∀ v sz es, H v sz es → H' v sz es) : ∀ {x : T}, x.fine H → x.fine H'
  | .list false _ _, h => h
  | .list true _ es, h => by simp only [T.fine] at h ⊢; exact fineRs_imp hi h
  | .held _ _ _, h => hi _ _ _ h
  | .int _ _, _ => trivial
  | .bool _, _ => trivial
  | .str _, _ => trivial
  | .dead, _ => trivial
theorem fineR_imp {H H' : Value → Nat → List (List T) → Prop} (hi : ∀ v sz es, H v sz es → H' v sz es) : ∀ {r : List T}, fineR H r → fineR H' r
  | [], _ => trivial
  | x :: r, h => ⟨T.fine_imp hi h.1, fineR_imp hi h.2⟩
theorem fineRs_imp {H H' : Value → Nat → List (List T) → Prop} (hi : ∀ v sz es, H v sz es → H' v sz es) : ∀ {rs : List (List T)}, fineRs H rs → fineRs H' rs
  | [], _ => trivial
  | r :: rs, h => ⟨fineR_imp hi h.1, fineRs_imp hi h.2⟩
end
theorem fineR_get {H : Value → Nat → List (List T) → Prop} : ∀ {r : List T} {j : Nat} {x : T}, fineR H r → r[j]? = some x → x.fine H
  | [], j, x, h, hj => by simp at hj
  | y :: r, j, x, h, hj => by
    cases j with
    | zero => simp at hj; subst hj; exact h.1
    | succ j => exact fineR_get h.2 (by simpa using hj)
theorem fineRs_get {H : Value → Nat → List (List T) → Prop} : ∀ {rs : List (List T)} {i : Nat} {r : List T}, fineRs H rs → rs[i]? = some r → fineR H r
  | [], i, r, h, hi => by simp at hi
  | y :: rs, i, r, h, hi => by
    cases i with
    | zero => simp at hi; subst hi; exact h.1
    | succ i => exact fineRs_get h.2 (by simpa using hi)
theorem RepR.fine {w w' : World} {ow ow' : Own} {x : T} {v : Value} (h : RepR w ow x v) (hc : x.fine fun v sz es => RepR w' ow' (.list false sz es) v) : RepR w' ow' x v := by
  cases h with
  | int => exact .int
  | bool => exact .bool
  | str => exact .str
  | dead => exact .dead
  | nil => exact hc.elim
  | list => exact hc.elim
  | held h => exact .held hc
theorem RepT.moveFine {w w' : World} {ow ow' : Own} {bs bs' : Base} {ℓ : Loc} {x : T} {v : Value} (h : RepT w ow bs ℓ x v) :
    (x.fine fun v sz es => RepR w' ow' (.list false sz es) v) → ∀ {ℓ' : Loc}, Moved w ow bs ℓ w' ow' bs' ℓ' → RepT w' ow' bs' ℓ' x v := by
  induction h with
  | ro h => exact fun hc _ _ => .ro (h.fine hc)
  | nil base => exact fun _ _ m => .nil (by have := m.2 []; simp at this; exact this.trans base)
  | @list ℓ a sz es len cap c e fr base spot own blk free hlen hcap fits rows _ ih =>
    intro hc ℓ' m
    simp only [T.fine] at hc
    have hk := m.1 a.block [] (by simpa using own)
    exact .list (by have := m.2 []; simp at this; exact this.trans base) spot (by simpa using hk.2) (hk.1.trans blk) free hlen hcap fits rows
      (fun i row j x h1 h2 => ih i row j x h1 h2 (fineR_get (fineRs_get hc h1) h2) (m.at i j))
theorem RepR.clean {w w' : World} {ow ow' : Own} {x : T} {v : Value} (h : RepR w ow x v) (hc : x.clean = true) : RepR w' ow' x v := by
  cases h with
  | int => exact .int
  | bool => exact .bool
  | str => exact .str
  | dead => exact .dead
  | nil => simp [T.clean] at hc
  | list => simp [T.clean] at hc
  | held => simp [T.clean] at hc
/-! ### what is handed over -/
inductive RT where
  | one (c : CT)
  | agg (cs : List CT)
  deriving Inhabited
def RT.cells : RT → List CT
  | .one c => [c]
  | .agg cs => cs
def CT.vv (b : Nat) : CT → VV
  | .v (.list true sz es) => .al b [] 0 sz 0 es.length
  | .v x => .c x
  | .box _ => .ptr b [] 0 0 0
  | .ref cs => .rop cs
  | .fn f caps => .fn f caps
def CT.ups (b : Nat) : CT → Ups
  | .v (.list true sz es) => [(b, some ⟨false, sz, es, []⟩)]
  | .box xs => [(b, some ⟨true, xs.length, [xs], []⟩)]
  | _ => []
def CT.fine (H : Value → Nat → List (List T) → Prop) : CT → Prop
  | .v x => x.fine H
  | .box xs => fineR H xs
  | .ref _ => False
  | .fn _ caps => caps = []
def CT.clean : CT → Bool
  | .v x => x.clean
  | .box xs => cleanR xs
  | .ref _ => false
  | .fn _ caps => caps.isEmpty
theorem CT.fine_of {H : Value → Nat → List (List T) → Prop} {c : CT} (h : c.clean = true) : c.fine H := by
  cases c with
  | v x => exact T.fine_of h
  | box xs => exact fineR_of h
  | ref _ => simp [CT.clean] at h
  | fn _ caps => simpa [CT.clean, CT.fine] using h
theorem CT.fine_imp {H H' : Value → Nat → List (List T) → Prop} (hi : ∀ v sz es, H v sz es → H' v sz es) {c : CT} (h : c.fine H) : c.fine H' := by
  cases c with
  | v x => exact T.fine_imp hi h
  | box xs => exact fineR_imp hi h
  | ref _ => exact h
  | fn _ caps => exact h
def cvv : Nat → List CT → List VV
  | _, [] => []
  | b, c :: cs => c.vv b :: cvv (b + 1) cs
def cups : Nat → List CT → Ups
  | _, [] => []
  | b, c :: cs => c.ups b ++ cups (b + 1) cs
def RT.vv (b : Nat) : RT → VV
  | .one c => c.vv b
  | .agg cs => .agg (cvv b cs)
def rvv : Nat → List RT → List VV
  | _, [] => []
  | b, x :: xs => x.vv b :: rvv (b + x.cells.length) xs
def rcells (xs : List RT) : List CT := xs.flatMap RT.cells
def st0 : St := fun _ => none
def envOf (l : List VV) : Nat → VV := fun t => l.getD t .undef
/-- The numbers of what comes back. -/
def RB : Nat := 2 ^ 40
def stOut (outs : List RT) (back : List (Nat × Root)) : St := st0.ups (cups RB (rcells outs) ++ back.map fun p => (p.1, some p.2))
def outL : List VV → VV
  | [v] => v
  | l => .tup l
def outV (outs : List RT) : VV := outL (rvv RB outs)
/-- Called with 'args', the function returns 'outs'; of what it was handed over it gives 'back' these. -/
def Runs (P : Program) (f : FuncId) (args outs : List RT) (back : List (Nat × Root)) : Prop :=
  ∀ w ow bs vals, Rel w ow bs (st0.ups (cups 0 (rcells args))) (fun x => (rcells args).length ≤ x) → Each (RelV w ow bs (st0.ups (cups 0 (rcells args))) (fun x => (rcells args).length ≤ x)) (rvv 0 args) vals →
    Calls P f vals w fun e w' => ∃ v ow' bs', e = .returned v ∧ Steady w ow w' ow' ∧ Rel w' ow' bs' (stOut outs back) (fun _ => False) ∧ RelV w' ow' bs' (stOut outs back) (fun _ => False) (outV outs) v ∧
      ∀ p ∈ back, bs' (p.1, []) = bs (p.1, [])
theorem cups_get {st : St} : ∀ {cs : List CT} {b r : Nat} {R : Root}, (st.ups (cups b cs)) r = some R →
    (∃ k c, cs[k]? = some c ∧ r = b + k ∧ ((∃ sz es, c = .v (.list true sz es) ∧ R = ⟨false, sz, es, []⟩) ∨ (∃ xs, c = .box xs ∧ R = ⟨true, xs.length, [xs], []⟩))) ∨ st r = some R
  | [], b, r, R, h => .inr h
  | c :: cs, b, r, R, h => by
    simp only [cups,St.ups_append] at h
    rcases cups_get h with ⟨k, c', h1, h2, h3⟩ | h
    · exact .inl ⟨k + 1, c', by simpa using h1, by omega, h3⟩
    · cases c with
      | v y =>
        cases y with
        | list o sz es =>
          cases o with
          | true =>
            simp only [CT.ups,St.ups_cons,St.ups_nil] at h
            by_cases e : r = b
            · subst e
              simp only [St.put_eq,Option.some.injEq] at h
              exact .inl ⟨0, _, rfl, rfl, .inl ⟨sz, es, rfl, h.symm⟩⟩
            · rw [St.put_ne _ _ e] at h; exact .inr h
          | false => exact .inr h
        | _ => exact .inr h
      | box xs =>
        simp only [CT.ups,St.ups_cons,St.ups_nil] at h
        by_cases e : r = b
        · subst e
          simp only [St.put_eq,Option.some.injEq] at h
          exact .inl ⟨0, _, rfl, rfl, .inr ⟨xs, rfl, h.symm⟩⟩
        · rw [St.put_ne _ _ e] at h; exact .inr h
      | _ => exact .inr h
theorem backs_get {st : St} : ∀ {back : List (Nat × Root)} {r : Nat} {R : Root}, (st.ups (back.map fun p => (p.1, some p.2))) r = some R → (∃ p ∈ back, p.1 = r ∧ p.2 = R) ∨ st r = some R
  | [], r, R, h => .inr h
  | p :: back, r, R, h => by
    simp only [List.map_cons,St.ups_cons] at h
    rcases backs_get h with ⟨q, h1, h2⟩ | h
    · exact .inl ⟨q, List.mem_cons_of_mem _ h1, h2⟩
    · by_cases e : r = p.1
      · subst e
        simp only [St.put_eq,Option.some.injEq] at h
        exact .inl ⟨p, by simp, rfl, h⟩
      · rw [St.put_ne _ _ e] at h; exact .inr h
/-- Do the values have these shapes? -/
def shapes : List VV → List RT → Bool
  | [], [] => true
  | .agg cs :: xs, .agg ds :: ys => cs.length == ds.length && shapes xs ys
  | .agg _ :: _, _ => false
  | _ :: xs, .one _ :: ys => shapes xs ys
  | _, _ => false
def valCells : VV → Value → List Value
  | .agg _, v => v.cells.toList
  | _, v => [v]
def flatV : List VV → List Value → List Value
  | x :: xs, v :: vs => valCells x v ++ flatV xs vs
  | _, _ => []
theorem valCells_rel {w ow bs st fr} {x : VV} {v : Value} (h : RelV w ow bs st fr x v) : x.cells.length = (valCells x v).length ∧ ∀ (k : Nat) (y : VV) (u : Value), x.cells[k]? = some y → (valCells x v)[k]? = some u → RelV w ow bs st fr y u := by
  have one : x.cells = [x] → valCells x v = [v] → x.cells.length = (valCells x v).length ∧ ∀ (k : Nat) (y : VV) (u : Value), x.cells[k]? = some y → (valCells x v)[k]? = some u → RelV w ow bs st fr y u := by
    intro h1 h2
    rw [h1, h2]
    refine ⟨rfl, fun k y u hy hu => ?_⟩
    cases k with
    | zero => simp at hy hu; subst hy; subst hu; exact h
    | succ k => simp at hy
  cases h with
  | @agg cs vs hl hh =>
    refine ⟨by simpa [VV.cells, valCells, Value.cells] using hl, fun k y u hy hu => ?_⟩
    have := hh k y hy
    simp only [valCells,Value.cells] at hu
    rw [Array.getD_eq_getD_getElem?] at this
    rw [Array.getElem?_toList] at hu
    rwa [hu] at this
  | _ => exact one rfl rfl
theorem flatV_rel {w ow bs st fr} : ∀ {xs : List VV} {vs : List Value}, xs.length = vs.length → (∀ (k : Nat) (x : VV) (v : Value), xs[k]? = some x → vs[k]? = some v → RelV w ow bs st fr x v) →
    (xs.flatMap VV.cells).length = (flatV xs vs).length ∧ ∀ (k : Nat) (y : VV) (u : Value), (xs.flatMap VV.cells)[k]? = some y → (flatV xs vs)[k]? = some u → RelV w ow bs st fr y u
  | [], vs, hl, h => by
    cases vs with
    | nil => exact ⟨rfl, fun k y u hy => by simp at hy⟩
    | cons v vs => simp at hl
  | x :: xs, vs, hl, h => by
    cases vs with
    | nil => simp at hl
    | cons v vs =>
      obtain ⟨i1, i2⟩ := flatV_rel (xs := xs) (vs := vs) (by simpa using hl) (fun k x v hx hv => h (k + 1) x v (by simpa using hx) (by simpa using hv))
      obtain ⟨j1, j2⟩ := valCells_rel (h 0 x v rfl rfl)
      simp only [List.flatMap_cons,flatV,List.length_append]
      refine ⟨by omega, fun k y u hy hu => ?_⟩
      by_cases e : k < x.cells.length
      · rw [List.getElem?_append_left e] at hy
        rw [List.getElem?_append_left (by omega)] at hu
        exact j2 k y u hy hu
      · rw [List.getElem?_append_right (by omega)] at hy hu
        rw [← j1] at hu
        exact i2 _ y u hy hu
/-- The values that come out stand for what is told. -/
theorem out_rel {w0 ow0 bs0 st0' fr0 w ow bs st fr} : ∀ {xs : List VV} {outs : List RT} {vs : List Value} {b : Nat}, shapes xs outs = true → xs.length = vs.length → (∀ (k : Nat) (x : VV) (v : Value), xs[k]? = some x → vs[k]? = some v → RelV w0 ow0 bs0 st0' fr0 x v) →
    (∀ (k : Nat) (c : CT) (v : Value), (rcells outs)[k]? = some c → (flatV xs vs)[k]? = some v → RelV w ow bs st fr (c.vv (b + k)) v) →
    (rvv b outs).length = vs.length ∧ ∀ (k : Nat) (x : VV) (v : Value), (rvv b outs)[k]? = some x → vs[k]? = some v → RelV w ow bs st fr x v
  | [], outs, vs, b, hs, hl, hr, h => by
    cases outs with
    | cons o outs => simp [shapes] at hs
    | nil =>
      cases vs with
      | nil => exact ⟨rfl, fun k x v hx => by simp [rvv] at hx⟩
      | cons v vs => simp at hl
  | x :: xs, outs, vs, b, hs, hl, hr, h => by
    cases vs with
    | nil => simp at hl
    | cons v vs =>
    cases outs with
    | nil => cases x <;> simp [shapes] at hs
    | cons o outs =>
      have hx := hr 0 x v rfl rfl
      have hj := valCells_rel hx
      have key : shapes xs outs = true → o.cells.length = (valCells x v).length → RelV w ow bs st fr (o.vv b) v →
          (rvv b (o :: outs)).length = (v :: vs).length ∧ ∀ (k : Nat) (x : VV) (u : Value), (rvv b (o :: outs))[k]? = some x → (v :: vs)[k]? = some u → RelV w ow bs st fr x u := by
        intro h1 h2 h3
        obtain ⟨i1, i2⟩ := out_rel (xs := xs) (outs := outs) (vs := vs) (b := b + o.cells.length) h1 (by simpa using hl) (fun k x v hx hv => hr (k + 1) x v (by simpa using hx) (by simpa using hv))
          (fun k c u hc hu => by
            have := h (o.cells.length + k) c u (by simp only [rcells,List.flatMap_cons]; rw [List.getElem?_append_right (by omega)]; simpa [rcells] using hc)
              (by simp only [flatV]; rw [List.getElem?_append_right (by omega)]; simpa [h2] using hu)
            rwa [show b + (o.cells.length + k) = b + o.cells.length + k from by omega] at this)
        refine ⟨by simp [rvv,i1], fun k x u hx hu => ?_⟩
        cases k with
        | zero => simp [rvv] at hx hu; subst hx; subst hu; exact h3
        | succ k => exact i2 k x u (by simpa [rvv] using hx) (by simpa using hu)
      cases o with
      | one c =>
        have hv1 : valCells x v = [v] := by cases x <;> first | rfl | simp [shapes] at hs
        refine key (by cases x <;> simp_all [shapes]) (by rw [hv1]; rfl) ?_
        have := h 0 c v (by simp [rcells,RT.cells]) (by simp [flatV,hv1])
        simpa [RT.vv] using this
      | agg ds =>
        cases x with
        | agg cs =>
          simp only [shapes,Bool.and_eq_true,beq_iff_eq] at hs
          cases hx with
          | @agg _ us hlen hh =>
          have hv1 : valCells (.agg cs) (.agg us) = us.toList := rfl
          refine key hs.2 (by rw [hv1]; simp [RT.cells]; omega) ?_
          have hcvv : ∀ (cs : List CT) (b : Nat), (cvv b cs).length = cs.length := by
            intro cs
            induction cs with
            | nil => intro b; rfl
            | cons c cs ih => intro b; simp [cvv,ih]
          have hcget : ∀ (cs : List CT) (b k : Nat) (y : VV), (cvv b cs)[k]? = some y → ∃ c, cs[k]? = some c ∧ y = c.vv (b + k) := by
            intro cs
            induction cs with
            | nil => intro b k y hy; simp [cvv] at hy
            | cons c cs ih =>
              intro b k y hy
              cases k with
              | zero => simp [cvv] at hy; exact ⟨c, rfl, hy.symm⟩
              | succ k =>
                obtain ⟨c', e1, e2⟩ := ih (b + 1) k y (by simpa [cvv] using hy)
                exact ⟨c', by simpa using e1, by rw [e2, show b + 1 + k = b + (k + 1) from by omega]⟩
          refine .agg (by rw [hcvv]; omega) (fun k y hy => ?_)
          obtain ⟨c, e1, rfl⟩ := hcget ds b k y hy
          have hk := lt_of_getl e1
          have hu : us.toList[k]? = some (us.getD k undef) := by
            rw [Array.getElem?_toList, Array.getD_eq_getD_getElem?, Array.getElem?_eq_getElem (by omega)]; rfl
          refine h k c _ ?_ ?_
          · simp only [rcells,List.flatMap_cons,RT.cells]; rw [List.getElem?_append_left hk]; exact e1
          · simp only [flatV,hv1]; rw [List.getElem?_append_left (by simp; omega)]; exact hu
        | _ => simp [shapes] at hs
end Go.VM
/- A function's body, walked, tells what the function does. -/
namespace Go.VM
/-- The results: slots, or variables that are loaded. -/
def resV (P : Program) (s : FS) : List ResultVar → Option (List VV)
  | [] => some []
  | .tmp t :: l => (resV P s l).map (s.env t :: ·)
  | .cell a t :: l => (match loadV P s.st t (s.env a) with | some v => (resV P s l).map (v :: ·) | none => none)
/-- At a function's end: its results, and what is given back. -/
def retV (P : Program) (fn : Func) (outs : List RT) (back : List (Nat × Root)) (K : Nat) (s : FS) : Prop :=
  ∃ vs, resV P s fn.results.toList = some vs ∧ s.nx ≤ RB ∧ shapes vs outs = true ∧
    ∃ u, takeCs s.st (vs.flatMap VV.cells) = some (rcells outs, u) ∧ ∀ p ∈ back, p.1 < K ∧ ∃ R, (s.st.ups u) p.1 = some R ∧ R.box = p.2.box ∧ R.sz = p.2.sz ∧ R.rows = p.2.rows
def endV (P : Program) (fn : Func) (outs : List RT) (back : List (Nat × Root)) (K : Nat) : Exit → FS → Prop
  | .normal, s => retV P fn outs back K s
  | .ret, s => retV P fn outs back K s
  | _, _ => False
def resG (tmps : Array Value) : ResultVar → Sem Value
  | .tmp t => pure (tmps.getD t undef)
  | .cell a t => do loadVar t (← asAddr (tmps.getD a undef))
theorem results_eq (fn : Func) (tmps : Array Value) : results fn tmps = (do let vs ← fn.results.mapM (resG tmps); pure (if h : vs.size = 1 then vs[0] else .tuple vs)) := by
  unfold results
  congr 1
theorem loadVar_run {P : Program} {w ow bs st fr} (h : Rel w ow bs st fr) {t : TypeId} {x z : VV} {v : Value} (rx : RelV w ow bs st fr x v) (hl : loadV P st t x = some z) :
    ∃ u, (do loadVar t (← asAddr v) : Sem Value).run P w = .ok u w ∧ RelV w ow bs st fr z u := by
  obtain ⟨u, h1, h2⟩ := loadV_run (P := P) h rx hl
  refine ⟨u, ?_, h2⟩
  have : ∃ a, v = .pointer (some a) := by
    cases rx with
    | ptr hf hs hv hm => obtain ⟨a, ha, _⟩ := hv; exact ⟨a, ha⟩
    | rop => exact ⟨_, rfl⟩
    | bxv => exact ⟨_, rfl⟩
    | _ => cases hl
  obtain ⟨a, rfl⟩ := this
  simpa [Instr.loadAt, Instr.sureAddr, asAddr] using h1
theorem resV_run {P : Program} {w ow bs} {fr : Nat → Prop} {s : FS} (h : Rel w ow bs s.st fr) (tmps : Array Value) (he : ∀ t, RelV w ow bs s.st fr (s.env t) (tmps.getD t undef)) (g : ResultVar → Sem Value) (hg : ∀ t, g (.tmp t) = pure (tmps.getD t undef)) (hg2 : ∀ a t, g (.cell a t) = (do loadVar t (← asAddr (tmps.getD a undef)))) :
    ∀ {l : List ResultVar} {vs : List VV}, resV P s l = some vs → ∃ us, (l.mapM g).run P w = .ok us w ∧ vs.length = us.length ∧ ∀ (k : Nat) (x : VV) (v : Value), vs[k]? = some x → us[k]? = some v → RelV w ow bs s.st fr x v
  | [], vs, hv => by
    simp only [resV,Option.some.injEq] at hv
    subst hv
    exact ⟨[], rfl, rfl, fun k x v hx => by simp at hx⟩
  | x :: l, vs, hv => by
    have cons : ∀ (y : VV) (z : Value) (vs' : List VV), (g x).run P w = .ok z w → RelV w ow bs s.st fr y z → resV P s l = some vs' → vs = y :: vs' →
        ∃ us, ((x :: l).mapM g).run P w = .ok us w ∧ vs.length = us.length ∧ ∀ (k : Nat) (x : VV) (v : Value), vs[k]? = some x → us[k]? = some v → RelV w ow bs s.st fr x v := by
      intro y z vs' h1 h2 h3 h4
      obtain ⟨us, k1, k2, k3⟩ := resV_run h tmps he g hg hg2 h3
      refine ⟨z :: us, by simp only [List.mapM_cons,Sem.run_bind,h1,Result.andThen_ok,k1,Sem.run_pure], by rw [h4]; simp [k2], fun k a b ha hb => ?_⟩
      rw [h4] at ha
      cases k with
      | zero => simp at ha hb; subst ha; subst hb; exact h2
      | succ k => exact k3 k a b (by simpa using ha) (by simpa using hb)
    cases x with
    | tmp t =>
      simp only [resV,Option.map_eq_some_iff] at hv
      obtain ⟨vs', h1, h2⟩ := hv
      exact cons _ _ vs' (by rw [hg]; rfl) (he t) h1 h2.symm
    | cell a t =>
      simp only [resV] at hv
      split at hv
      · rename_i v hl
        rw [Option.map_eq_some_iff] at hv
        obtain ⟨vs', h1, h2⟩ := hv
        obtain ⟨u, q1, q2⟩ := loadVar_run (P := P) h (he a) hl
        exact cons _ _ vs' (by rw [hg2]; exact q1) q2 h1 h2.symm
      · cases hv
theorem holdsC_rel {w ow bs st fr stF} {t : Nat} {c : CT} {v : Value} (h : Rel w ow bs st fr) (hh : HoldsC w ow bs st t c v) : RelV w ow bs stF (fun _ => False) (c.vv t) v := by
  cases c with
  | v y =>
    rcases hh with ⟨h1, h2, h3⟩ | ⟨sz, es, rfl, h2, rfl⟩
    · have : CT.vv t (.v y) = .c y := by
        cases y with
        | list o sz es => cases o <;> first | rfl | simp [isOwn] at h1
        | _ => rfl
      rw [this]; exact .c h3
    · have hr := h.root t _ h2
      obtain ⟨s1, s2⟩ := hr.slice
      exact .al (fun x => x) (fun _ => ⟨by rw [hr.base], s2⟩) s1 (fun R hR => Nat.zero_le _)
  | box xs =>
    obtain ⟨h1, a, l, cap, h2, rfl⟩ := hh
    exact .ptr (fun x => x) (fun _ => ⟨a, l, cap, h2, by simp⟩) ⟨_, rfl, rfl⟩ (fun R hR => Nat.zero_le _)
  | fn f caps =>
    obtain ⟨rfl, rfl⟩ := hh
    exact .fn (caps := []) (vs := #[]) rfl (fun k cs h => by simp at h)
  | ref cs => exact hh.elim
theorem each_of {w ow bs st fr} {xs : List VV} {vs : Array Value} (h : Each (RelV w ow bs st fr) xs vs) : RelE w ow bs st fr (envOf xs) { tmps := vs, defers := [] } := by
  intro t
  simp only [envOf]
  cases ht : xs[t]? with
  | none => rw [List.getD_eq_getElem?_getD, ht]; exact .undef
  | some x => rw [List.getD_eq_getElem?_getD, ht]; exact h.2 t x ht
theorem outV_rel {w ow bs st fr} {l : List VV} {vs : List Value} (hl : l.length = vs.length) (h : ∀ (k : Nat) (x : VV) (v : Value), l[k]? = some x → vs[k]? = some v → RelV w ow bs st fr x v) :
    RelV w ow bs st fr (outL l) (if h : vs.toArray.size = 1 then vs.toArray[0] else .tuple vs.toArray) := by
  match l, vs, hl with
  | [], [], _ => exact .tup rfl (fun k x hx => by simp at hx)
  | [x], [v], _ => exact h 0 x v rfl rfl
  | x :: y :: l, u :: v :: vs, hl =>
    simp only [List.size_toArray,List.length_cons]
    rw [dif_neg (by omega)]
    refine .tup (by simpa using hl) (fun k x' hx => ?_)
    have hk := lt_of_getl hx
    have hk' : k < (u :: v :: vs).length := by omega
    have := h k x' _ hx (List.getElem?_eq_getElem hk')
    rw [Array.getD_eq_getD_getElem?, List.getElem?_toArray, List.getElem?_eq_getElem hk']
    exact this
theorem runs_of_vw {P : Program} {f : FuncId} {fn : Func} {c : Code} {args outs : List RT} {back : List (Nat × Root)} (hf : P.funcs[f]? = some fn) (hb : fn.body = some c) (hn : args.length ≤ fn.ntmps)
    (h : VW P fn.ntmps (rcells args).length c (endV P fn outs back (rcells args).length) ⟨envOf (rvv 0 args), st0.ups (cups 0 (rcells args)), (rcells args).length⟩) : Runs P f args outs back := by
  intro w ow bs vals hrel hvals
  have hlen : (rvv 0 args).length = args.length := by
    have : ∀ (l : List RT) (b : Nat), (rvv b l).length = l.length := by
      intro l
      induction l with
      | nil => intro b; rfl
      | cons x l ih => intro b; simp [rvv,ih]
    exact this _ _
  have hsize : vals.size = args.length := by rw [← hvals.1, hlen]
  refine calls_of_wp hf hb (wp_mono (h w ow bs { tmps := vals ++ Array.replicate (fn.ntmps - vals.size) undef, defers := [] } ⟨hrel, ?_, ?_, rfl, Nat.le_refl _⟩) ?_)
  · intro t
    have h1 := each_of hvals t
    simp only [envOf] at h1 ⊢
    by_cases ht : t < vals.size
    · simp only [Array.getD_eq_getD_getElem?] at h1 ⊢
      rw [Array.getElem?_append_left ht]
      exact h1
    · have : (rvv 0 args)[t]? = none := List.getElem?_eq_none (by omega)
      show RelV _ _ _ _ _ ((rvv 0 args).getD t .undef) _
      rw [List.getD_eq_getElem?_getD, this]
      exact .undef
  · simp; omega
  · rintro e a' w' ⟨s, ow', bs', hq, hs, ha⟩
    have key : retV P fn outs back (rcells args).length s → a'.defers = [] ∧ ∃ v, (results fn a'.tmps).run P w' = .ok v w' ∧ ∃ v' ow'' bs'', Ending.returned v = .returned v' ∧ Steady w ow w' ow'' ∧ Rel w' ow'' bs'' (stOut outs back) (fun _ => False) ∧
        RelV w' ow'' bs'' (stOut outs back) (fun _ => False) (outV outs) v' ∧ ∀ p ∈ back, bs'' (p.1, []) = bs (p.1, []) := by
      rintro ⟨vs, h1, h2, h3, u, h4, h5⟩
      obtain ⟨us, q1, q2, hrs⟩ := resV_run (P := P) ha.rel a'.tmps ha.env (resG a'.tmps) (fun t => rfl) (fun a t => rfl) h1
      obtain ⟨f1, f2⟩ := flatV_rel q2 hrs
      obtain ⟨owB, bsB, stB, g1, g2, g3, g4, g5, g6, g7, g8⟩ := takeCs_sound _ _ _ _ RB ha.rel (fun k _ => by show s.nx ≤ RB + k; omega) (fun _ _ => rfl) (Quiet.refl _ _ _) (Kept.refl _ _) h4 f1 f2
      have hrun : (results fn a'.tmps).run P w' = .ok (if h : us.toArray.size = 1 then us.toArray[0] else .tuple us.toArray) w' := by
        rw [results_eq]
        rw [Array.mapM_eq_mapM_toList]
        simp only [Sem.run_bind,Sem.run_map]
        rw [q1]
        rfl
      have hfin : Rel w' owB bsB (stOut outs back) (fun _ => False) := by
        have r1 : Rel w' owB bsB (stOut outs back) (fun x => s.nx ≤ x ∧ ¬(RB ≤ x ∧ x < RB + (vs.flatMap VV.cells).length) ∧ False) := by
          refine Rel.shrink (Rel.relog (g1.shrink (fr' := fun _ => False) (fun _ h => h.elim)) ?_) (fun r h => h.2.2.elim)
          intro r R hR
          simp only [stOut,St.ups_append] at hR
          rcases backs_get hR with ⟨p, hp, rfl, rfl⟩ | hR
          · obtain ⟨hK, R0, e1, e2, e3, e4⟩ := h5 p hp
            refine ⟨R0, ?_, e2, e3, e4⟩
            rw [g4 _ (by have := ha.old; show ¬ s.nx ≤ p.1; omega)]; exact e1
          · rcases cups_get hR with ⟨k, c, e1, rfl, e2⟩ | hR
            · have hlt : k < (flatV vs us).length := by
                have := lt_of_getl e1; omega
              have hh := g6 k c _ e1 (List.getElem?_eq_getElem hlt)
              rcases e2 with ⟨sz, es, rfl, rfl⟩ | ⟨xs, rfl, rfl⟩
              · rcases hh with ⟨q1, _, _⟩ | ⟨sz', es', q1, q2, _⟩
                · cases q1
                · simp only [T.list.injEq,true_and] at q1
                  obtain ⟨rfl, rfl⟩ := q1
                  exact ⟨_, q2, rfl, rfl, rfl⟩
              · exact ⟨_, hh.1, rfl, rfl, rfl⟩
            · cases hR
        exact r1.shrink (fun _ h => h.elim)
      refine ⟨ha.defers, _, hrun, _, owB, bsB, rfl, ?_, hfin, ?_, fun p hp => ?_⟩
      · exact ⟨fun b hb hlt => by
          have e1 := hs.steady.kept b hb hlt
          have e2 := g2 b e1.2 (Nat.lt_of_lt_of_le hlt hs.steady.size)
          exact ⟨e1.1, e2.2⟩, hs.steady.size, hs.steady.os, hs.steady.tape, hs.steady.output⟩
      · obtain ⟨o1, o2⟩ := out_rel (w := w') (ow := owB) (bs := bsB) (st := stOut outs back) (fr := fun _ => False) (b := RB) h3 q2 hrs (fun k c v hc hv => holdsC_rel g1 (g6 k c v hc hv))
        exact outV_rel o1 o2
      · obtain ⟨hK, _⟩ := h5 p hp
        rw [g3.base p.1 (by have := ha.old; show ¬ s.nx ≤ p.1; omega)]
        exact hs.base p.1 hK
    cases e with
    | normal => exact key hq
    | ret => exact key hq
    | _ => exact hq.elim
end Go.VM
/- Handing over to a call: what is moved, what is lent. -/
namespace Go.VM
/-- Only read; moved for good; moved, and given back. -/
inductive Md where
  | ro
  | own
  | back
  deriving Inhabited
def handBack (st : St) : VV → Option (Option CT × Ups × Option Nat)
  | .al r [] _ sz 0 len => (match st r with | some R => if R.box = false ∧ R.sz = sz ∧ R.rows.length = len then some (some (.v (.list true sz R.rows)), [(r, none)], some r) else none | none => none)
  | .ptr r [] _ 0 0 => (match st r with | some R => if R.box then (match R.rows with | [row] => some (some (.box row), [(r, none)], some r) | _ => none) else none | none => none)
  | .c _ => some (none, [], none)
  | _ => none
def handC (st : St) : Md → VV → Option (Option CT × Ups × Option Nat)
  | .ro, _ => some (none, [], none)
  | .own, x => (takeC st x).map fun p => (some p.1, p.2, none)
  | .back, x => handBack st x
def handCs (st : St) : List (Md × VV) → Option (List (Option CT) × Ups × List (Option Nat))
  | [] => some ([], [], [])
  | x :: xs =>
    match handC st x.1 x.2 with
    | some (y, u, b) => (match handCs (st.ups u) xs with | some (ys, us, bs) => some (y :: ys, u ++ us, b :: bs) | none => none)
    | none => none
def CT.rooted (st : St) (t : Nat) : CT → Prop
  | .v (.list true sz es) => st t = some ⟨false, sz, es, []⟩
  | .box xs => st t = some ⟨true, xs.length, [xs], []⟩
  | _ => True
def HoldsA (w : World) (ow : Own) (bs : Base) (st : St) (fr : Nat → Prop) (t : Nat) (y : Option CT) (v : Value) : Prop :=
  ∀ c, y = some c → RelV w ow bs st fr (c.vv t) v ∧ c.rooted st t
theorem HoldsA.mono {w w' ow ow' bs bs' st st' fr fr' t y v} (h : HoldsA w ow bs st fr t y v) (hk : Kept w ow w' ow') (hq : Quiet bs st fr bs' st' fr') (hs : st' t = st t) : HoldsA w' ow' bs' st' fr' t y v := by
  intro c hc
  obtain ⟨h1, h2⟩ := h c hc
  refine ⟨h1.mono hk hq, ?_⟩
  cases c with
  | v y => cases y with
    | list o sz es => cases o <;> first | exact trivial | exact hs.trans h2
    | _ => trivial
  | box xs => exact hs.trans h2
  | _ => trivial
theorem rooted_of_holds {w ow bs st t c v} (h : HoldsC w ow bs st t c v) : c.rooted st t := by
  cases c with
  | v y =>
    rcases h with ⟨h1, h2, h3⟩ | ⟨sz, es, rfl, h2, _⟩
    · cases y with
      | list o sz es => cases o <;> first | trivial | simp [isOwn] at h1
      | _ => trivial
    · exact h2
  | box xs => exact h.1
  | _ => trivial
theorem rop_fr {w ow bs st fr st' fr'} {cs : List T} {v : Value} (h : RelV w ow bs st fr (.rop cs) v) : RelV w ow bs st' fr' (.rop cs) v := by
  cases h with | rop a b c d e => exact .rop a b c d e
theorem RelV.fr {w ow bs st fr st' fr'} {c : CT} {t : Nat} {v : Value} (h : RelV w ow bs st fr (c.vv t) v) (hf : ¬ fr' t) : RelV w ow bs st' fr' (c.vv t) v := by
  cases c with
  | v y =>
    cases y with
    | list o sz es =>
      cases o with
      | true =>
        cases h with
        | al h1 h2 h3 h4 => exact .al hf (fun _ => h2 (.inl rfl)) h3 (fun _ _ => Nat.zero_le _)
      | false => cases h with | c h => exact .c h
    | _ => cases h with | c h => exact .c h
  | box xs => cases h with | ptr h1 h2 h3 h4 => exact .ptr hf (fun _ => h2 (.inl rfl)) h3 (fun _ _ => Nat.zero_le _)
  | ref cs => cases h with | rop a b c d e => exact .rop a b c d e
  | fn f caps =>
    cases h with
    | fn hl hh => exact .fn hl (fun k cs hk => rop_fr (hh k cs hk))
theorem handC_sound {w ow0 bs0 st0'} {fr0 : Nat → Prop} {owA bsA stA} {frA : Nat → Prop} {stV : St} {md : Md} {x : VV} {v : Value} {y : Option CT} {u : Ups} {b : Option Nat} {t : Nat} (h : Rel w owA bsA stA frA) (ht : frA t)
    (agree : ∀ r, ¬ fr0 r → stA r = stV r) (hq : Quiet bs0 st0' fr0 bsA stA frA) (hk : Kept w ow0 w owA) (hx : handC stV md x = some (y, u, b)) (rx : RelV w ow0 bs0 st0' fr0 x v) :
    ∃ owB bsB stB, Rel w owB bsB stB (fun x => frA x ∧ x ≠ t) ∧ Kept w owA w owB ∧ Quiet bsA stA frA bsB stB (fun x => frA x ∧ x ≠ t) ∧ (∀ r, ¬ fr0 r → stB r = (stV.ups u) r) ∧
      HoldsA w owB bsB stB (fun x => frA x ∧ x ≠ t) t y v ∧ (∀ r, fr0 r → r ≠ t → stB r = stA r) ∧ (∀ r R', (r, R') ∈ u → ¬ fr0 r) ∧ (∀ r0, b = some r0 → ¬ fr0 r0 ∧ bsB (t, []) = bs0 (r0, []) ∧ (∃ R, stV r0 = some R) ∧ y ≠ none) := by
  cases md with
  | ro =>
    simp only [handC,Option.some.injEq,Prod.mk.injEq] at hx
    obtain ⟨rfl, rfl, rfl⟩ := hx
    refine ⟨owA, bsA, stA, h.shrink (fun _ h => h.1), Kept.refl _ _, Quiet.shrink (fun _ h => h.1), agree, ?_, fun _ _ _ => rfl, ?_, ?_⟩
    · intro c hc; cases hc
    · intro r R' hm; cases hm
    · intro r hb; cases hb
  | own =>
    simp only [handC,Option.map_eq_some_iff] at hx
    obtain ⟨⟨c, u'⟩, h1, h2⟩ := hx
    simp only [Prod.mk.injEq] at h2
    obtain ⟨rfl, rfl, rfl⟩ := h2
    obtain ⟨owB, bsB, stB, g1, g2, g3, g4, g5, g6, g7⟩ := takeC_sound h ht agree hq hk h1 rx
    refine ⟨owB, bsB, stB, g1, g2, g3, g4, fun c' hc => ?_, g6, g7, fun _ hb => by cases hb⟩
    simp only [Option.some.injEq] at hc
    subst hc
    exact ⟨(holdsC_rel (stF := stB) g1 g5).fr (fun e => e.2 rfl), rooted_of_holds g5⟩
  | back =>
    have key : ∀ (r : Nat) (R : Root), ¬ fr0 r → stV r = some R → ∀ (c : CT), u = [(r, none)] → y = some c → b = some r → (c.rooted (((stA.put r none).put t (some { R with log := [] }))) t) →
        RelV w (renOw owA r t) (renBase bsA r t) ((stA.put r none).put t (some { R with log := [] })) (fun x => frA x ∧ x ≠ t) (c.vv t) v →
        ∃ owB bsB stB, Rel w owB bsB stB (fun x => frA x ∧ x ≠ t) ∧ Kept w owA w owB ∧ Quiet bsA stA frA bsB stB (fun x => frA x ∧ x ≠ t) ∧ (∀ r, ¬ fr0 r → stB r = (stV.ups u) r) ∧
          HoldsA w owB bsB stB (fun x => frA x ∧ x ≠ t) t y v ∧ (∀ r, fr0 r → r ≠ t → stB r = stA r) ∧ (∀ r R', (r, R') ∈ u → ¬ fr0 r) ∧ (∀ r0, b = some r0 → ¬ fr0 r0 ∧ bsB (t, []) = bs0 (r0, []) ∧ (∃ R, stV r0 = some R) ∧ y ≠ none) := by
      intro r R hnf hR c hu hy hb hroot hrel
      subst hu hy hb
      have hrA : stA r = some R := (agree r hnf).trans hR
      obtain ⟨h1, h2, h3⟩ := h.rename hrA ht
      have hf0 : fr0 t := hq.free t ht
      have hrt : r ≠ t := fun e => hnf (by rw [e]; exact hf0)
      refine ⟨_, _, _, h1, h2, h3, fun x hx => ?_, fun c' hc => ?_, fun x hx hne => ?_, fun x R' hm => ?_, fun r0 hr0 => ?_⟩
      · have : x ≠ t := fun e => hx (by rw [e]; exact hf0)
        rw [St.put_ne _ _ this]
        simp only [St.ups_cons,St.ups_nil]
        by_cases e : x = r
        · subst e; simp
        · rw [St.put_ne _ _ e, St.put_ne _ _ e]; exact agree x hx
      · simp only [Option.some.injEq] at hc
        subst hc
        exact ⟨hrel, hroot⟩
      · rw [St.put_ne _ _ hne]
        have : x ≠ r := fun e => hnf (by rw [← e]; exact hx)
        rw [St.put_ne _ _ this]
      · simp only [List.mem_singleton,Prod.mk.injEq] at hm
        rw [hm.1]; exact hnf
      · simp only [Option.some.injEq] at hr0
        subst hr0
        refine ⟨hnf, ?_, ⟨R, hR⟩, by simp⟩
        simp only [renBase,if_true]
        exact hq.base r hnf
    have base : ∀ r, ¬ fr0 r → renBase bsA r t (t, []) = bs0 (r, []) := fun r hnf => by simp only [renBase,if_true]; exact hq.base r hnf
    simp only [handC] at hx
    unfold handBack at hx
    split at hx
    · rename_i r m sz len
      split at hx
      · rename_i R hR
        split at hx
        · rename_i hc
          obtain ⟨c1, c2, c3⟩ := hc
          simp only [Option.some.injEq,Prod.mk.injEq] at hx
          obtain ⟨rfl, rfl, rfl⟩ := hx
          cases rx with
          | al hnf hsub hv hm =>
          refine key r R hnf hR _ rfl rfl rfl ?_ ?_
          · simp only [CT.rooted,St.put_eq]
            cases R
            simp_all
          · obtain ⟨e1, e2⟩ := hsub (.inl rfl)
            subst c3
            refine .al (fun e => e.2 rfl) (fun _ => ?_) hv (fun _ _ => Nat.zero_le _)
            rw [base r hnf]
            exact ⟨e1, e2⟩
        · cases hx
      · cases hx
    · rename_i r m
      split at hx
      · rename_i R hR
        split at hx
        · rename_i hbox
          split at hx
          · rename_i row hrow
            simp only [Option.some.injEq,Prod.mk.injEq] at hx
            obtain ⟨rfl, rfl, rfl⟩ := hx
            cases rx with
            | ptr hnf hsub hv hm =>
            have hsz := h.rowlen ((agree r hnf).trans hR) hrow
            refine key r R hnf hR _ rfl rfl rfl ?_ ?_
            · simp only [CT.rooted,St.put_eq]
              cases R
              simp_all
            · obtain ⟨a, l, cap, e1, e2⟩ := hsub (.inl rfl)
              refine .ptr (fun e => e.2 rfl) (fun _ => ⟨a, l, cap, ?_, ?_⟩) hv (fun _ _ => Nat.zero_le _)
              · rw [base r hnf]; exact e1
              · rw [e2]; simp
          · cases hx
        · cases hx
      · cases hx
    · simp only [Option.some.injEq,Prod.mk.injEq] at hx
      obtain ⟨rfl, rfl, rfl⟩ := hx
      refine ⟨owA, bsA, stA, h.shrink (fun _ h => h.1), Kept.refl _ _, Quiet.shrink (fun _ h => h.1), agree, ?_, fun _ _ _ => rfl, ?_, ?_⟩
      · intro c hc; cases hc
      · intro r R' hm; cases hm
      · intro r hb; cases hb
    · cases hx
theorem handCs_sound {w ow0 bs0 st0'} {fr0 : Nat → Prop} : ∀ (xs : List (Md × VV)) (vs : List Value) (ys : List (Option CT)) (u : Ups) (bk : List (Option Nat)) (t0 : Nat) {owA bsA stA} {frA : Nat → Prop} {stV : St}, Rel w owA bsA stA frA → (∀ k, k < xs.length → frA (t0 + k)) →
    (∀ r, ¬ fr0 r → stA r = stV r) → Quiet bs0 st0' fr0 bsA stA frA → Kept w ow0 w owA → handCs stV xs = some (ys, u, bk) → xs.length = vs.length →
    (∀ (k : Nat) (x : Md × VV) (v : Value), xs[k]? = some x → vs[k]? = some v → RelV w ow0 bs0 st0' fr0 x.2 v) →
    ∃ owB bsB stB, Rel w owB bsB stB (fun x => frA x ∧ ¬ (t0 ≤ x ∧ x < t0 + xs.length)) ∧ Kept w owA w owB ∧ Quiet bsA stA frA bsB stB (fun x => frA x ∧ ¬ (t0 ≤ x ∧ x < t0 + xs.length)) ∧
      (∀ r, ¬ fr0 r → stB r = (stV.ups u) r) ∧ ys.length = xs.length ∧ (∀ (k : Nat) (y : Option CT) (v : Value), ys[k]? = some y → vs[k]? = some v → HoldsA w owB bsB stB (fun x => frA x ∧ ¬ (t0 ≤ x ∧ x < t0 + xs.length)) (t0 + k) y v) ∧
      (∀ r, fr0 r → ¬ (t0 ≤ r ∧ r < t0 + xs.length) → stB r = stA r) ∧ (∀ r R', (r, R') ∈ u → ¬ fr0 r) ∧
      (∀ (k : Nat) (r0 : Nat), bk[k]? = some (some r0) → ¬ fr0 r0 ∧ bsB (t0 + k, []) = bs0 (r0, []) ∧ ∃ c, ys[k]? = some (some c)) ∧ bk.length = xs.length
  | [], vs, ys, u, bk, t0, owA, bsA, stA, frA, stV, h, ht, agree, hq, hk, hx, hl, rx => by
    simp only [handCs,Option.some.injEq,Prod.mk.injEq] at hx
    obtain ⟨rfl, rfl, rfl⟩ := hx
    refine ⟨owA, bsA, stA, h.shrink (fun _ h => h.1), Kept.refl _ _, Quiet.shrink (fun _ h => h.1), agree, rfl, ?_, fun _ _ _ => rfl, ?_, ?_, rfl⟩
    · intro k y v hk'; simp at hk'
    · intro r R' hm; cases hm
    · intro k r0 hb; simp at hb
  | x :: xs, vs, ys, u, bk, t0, owA, bsA, stA, frA, stV, h, ht, agree, hq, hk, hx, hl, rx => by
    cases vs with
    | nil => simp at hl
    | cons v vs =>
    simp only [handCs] at hx
    cases h1 : handC stV x.1 x.2 with
    | none => rw [h1] at hx; cases hx
    | some yu =>
      obtain ⟨y, u1, b1⟩ := yu
      rw [h1] at hx
      simp only at hx
      cases h2 : handCs (stV.ups u1) xs with
      | none => rw [h2] at hx; cases hx
      | some yus =>
        obtain ⟨ys', u2, b2⟩ := yus
        rw [h2] at hx
        simp only [Option.some.injEq,Prod.mk.injEq] at hx
        obtain ⟨rfl, rfl, rfl⟩ := hx
        have ht0 := ht 0 (by simp)
        simp only [Nat.add_zero] at ht0
        obtain ⟨owB, bsB, stB, g1, g2, g3, g4, g5, g6, g7, g8⟩ := handC_sound h ht0 agree hq hk h1 (rx 0 x v (by simp) (by simp))
        have hq' := hq.trans g3
        have hk' : Kept w ow0 w owB := fun b hb hlt => g2 b (hk b hb hlt).2 hlt |>.imp (fun e => e.trans rfl) id
        obtain ⟨owC, bsC, stC, k1, k2, k3, k4, k5, k6, k7, k8, k9, k10⟩ := handCs_sound xs vs ys' u2 b2 (t0 + 1) g1 (fun k hk => ⟨by have := ht (k + 1) (by simp; omega); rwa [show t0 + 1 + k = t0 + (k + 1) from by omega], by omega⟩) g4 hq'
          hk' h2 (by simpa using hl) (fun k x' v' hx' hv' => rx (k + 1) x' v' (by simpa using hx') (by simpa using hv'))
        have hsub : ∀ r, (frA r ∧ ¬ (t0 ≤ r ∧ r < t0 + (x :: xs).length)) → (frA r ∧ r ≠ t0) ∧ ¬ (t0 + 1 ≤ r ∧ r < t0 + 1 + xs.length) := by
          intro r hr
          simp only [List.length_cons] at hr
          exact ⟨⟨hr.1, by omega⟩, by omega⟩
        have hf0 : fr0 t0 := hq.free t0 ht0
        refine ⟨owC, bsC, stC, k1.shrink hsub, fun b hb hlt => ?_, (g3.trans k3).trans (Quiet.shrink hsub), fun r hr => by rw [k4 r hr, St.ups_append], by simp [k5], fun k y' v' hy hv => ?_, fun r hr hne => ?_, fun r R' hm => ?_, fun k r0 hb => ?_, by simp [k10]⟩
        · have e1 := g2 b hb hlt
          exact k2 b e1.2 hlt
        · cases k with
          | zero =>
            simp only [List.getElem?_cons_zero,Option.some.injEq] at hy hv
            subst hy; subst hv
            exact g5.mono k2 (k3.trans (Quiet.shrink hsub)) (k7 _ (by simpa using hf0) (by omega))
          | succ k =>
            have := k6 k y' v' (by simpa using hy) (by simpa using hv)
            rw [show t0 + 1 + k = t0 + (k + 1) from by omega] at this
            exact this.mono (Kept.refl _ _) (Quiet.shrink hsub) rfl
        · simp only [List.length_cons] at hne
          rw [k7 r hr (by omega), g6 r hr (by omega)]
        · rcases List.mem_append.1 hm with hm | hm
          · exact g7 r R' hm
          · exact k8 r R' hm
        · cases k with
          | zero =>
            simp only [List.getElem?_cons_zero,Option.some.injEq] at hb
            obtain ⟨e1, e2, e3, e4⟩ := g8 r0 hb
            refine ⟨e1, ?_, ?_⟩
            · rw [Nat.add_zero, k3.base t0 (fun e => e.2 rfl)]; exact e2
            · cases y with
              | none => exact absurd rfl e4
              | some c => exact ⟨c, rfl⟩
          | succ k =>
            obtain ⟨e1, e2, e3⟩ := k9 k r0 (by simpa using hb)
            exact ⟨e1, by rwa [show t0 + 1 + k = t0 + (k + 1) from by omega] at e2, by simpa using e3⟩
end Go.VM
/- What is lent to be read by a call. -/
namespace Go.VM
def lendC (st : St) : VV → Option CT
  | .c x => some (.v x.toRO)
  | .nils sz => some (.v (.list false sz []))
  | .al r p m sz off len =>
    match seek st r p m with
    | some (_, sz', rows) => if off + len ≤ rows.length ∧ sz = sz' then some (.v (.list false sz (((rows.drop off).take len).map (List.map T.toRO)))) else none
    | none => none
  | .ptr r p m i j =>
    match seek st r p m with
    | some (_, _, rows) => if i < rows.length ∧ j ≤ (rows.getD i []).length then some (.ref (((rows.getD i []).drop j).map T.toRO)) else none
    | none => none
  | .rop cs => some (.ref cs)
  | .fn f caps => some (.fn f caps)
  | _ => none
def mergeCs (st : St) : List (Option CT) → List VV → Option (List CT)
  | [], [] => some []
  | some c :: ys, _ :: xs => (mergeCs st ys xs).map (c :: ·)
  | none :: ys, x :: xs => (match lendC st x with | some c => (mergeCs st ys xs).map (c :: ·) | none => none)
  | _, _ => none
theorem RepR.sub {w ow sz rows bv off len v} (h : RepR w ow (.list false sz rows) bv) (hs : Sub sz bv off len v) (hle : off + len ≤ rows.length) : RepR w ow (.list false sz ((rows.drop off).take len)) v := by
  rcases hs with ⟨a, l, cap, o, cap', rfl, rfl, ho, hfit, hc⟩ | ⟨l, cap, rfl, rfl, rfl⟩
  · by_cases h0 : len = 0
    · subst h0; simp only [List.take_zero]; exact .nil
    · cases h with
      | nil => simp at hle; omega
      | @list _ _ _ _ _ c e fr spot own blk hlen hcap fits hrows cells =>
        have ho := ho.resolve_left h0
        refine .list (c := c) (e := e) (fr := fr) rfl own blk (by simp; omega) hc.1 ?_ ?_ ?_
        · show o + len * sz ≤ c.size
          have : (off + len) * sz ≤ l * sz := Nat.mul_le_mul_right _ (by omega)
          rw [Nat.add_mul] at this
          omega
        · intro i row hi
          rw [List.getElem?_take] at hi
          split at hi
          · rw [List.getElem?_drop] at hi; exact hrows _ _ hi
          · cases hi
        · intro i row j x hi hj
          rw [List.getElem?_take] at hi
          split at hi
          · rw [List.getElem?_drop] at hi
            have := cells _ _ _ _ hi hj
            show RepR w ow x (c.getD (o + i * sz + j) undef)
            rwa [show a.off + (off + i) * sz + j = o + i * sz + j from by rw [Nat.add_mul]; omega] at this
          · cases hi
  · simp only [List.take_zero]; exact .nil
theorem lendC_rel {w owB bsB stB frB owC bsC stC frC} {x : VV} {v : Value} {c : CT} {k : Nat} (h : Rel w owB bsB stB frB) (rx : RelV w owB bsB stB frB x v) (hC : ∀ b, owB b = none → owC b = none)
    (hL : ∀ b r q R, owB b = some (r, q) → stB r = some R → (∀ p m i j, x = .ptr r p m i j → owC b = none) ∧ (∀ p m sz off len, x = .al r p m sz off len → owC b = none)) (hc : lendC stB x = some c) : RelV w owC bsC stC frC (c.vv k) v := by
  have hk : Kept w owB w owC := fun b hb _ => ⟨rfl, hC b hb⟩
  cases rx with
  | @c x v h1 =>
    simp only [lendC,Option.some.injEq] at hc
    subst hc
    have h2 := (h1.mono hk).lend
    have : CT.vv k (.v x.toRO) = .c x.toRO := by
      cases x with
      | list o sz es => rw [toRO_list]; rfl
      | _ => simp [CT.vv]
    rw [this]; exact .c h2
  | nils =>
    simp only [lendC,Option.some.injEq] at hc
    subst hc
    exact .c .nil
  | @al r p m sz off len v hf hs hv hm =>
    simp only [lendC] at hc
    split at hc
    · rename_i R sz' rows hseek
      split at hc
      · rename_i hcond
        simp only [Option.some.injEq] at hc
        subst hc
        obtain ⟨hr, hfresh, hn⟩ := seek_some hseek
        obtain ⟨e1, e2⟩ := hs (seek_still hseek)
        have hnav := (h.root r R hr).nav hn
        simp only [List.nil_append] at hnav
        have hlend := hnav.lend hk (fun b q hb => ⟨rfl, (hL b _ _ R hb hr).2 p m sz off len rfl⟩)
        rw [toRO_list] at hlend
        have := RepR.sub hlend (by rw [hcond.2] at e2; exact e2) (by simpa using hcond.1)
        rw [← List.map_drop, ← List.map_take] at this
        rw [hcond.2]
        exact .c this
      · cases hc
    · cases hc
  | @ptr r p m i j v hf hs hv hm =>
    simp only [lendC] at hc
    split at hc
    · rename_i R sz rows hseek
      split at hc
      · rename_i hcond
        simp only [Option.some.injEq] at hc
        subst hc
        obtain ⟨hr, hfresh, hn⟩ := seek_some hseek
        obtain ⟨a0, l0, cap0, e1, rfl⟩ := hs (seek_still hseek)
        have hnav := (h.root r R hr).nav hn
        simp only [List.nil_append] at hnav
        have hbase := hnav.base
        rw [hbase] at e1 ⊢
        simp only at e1
        generalize hbv : (bsB (r, p)).2 = bv at hnav hbase
        rw [hbv] at e1
        subst e1
        cases hnav with
        | ro h => cases h
        | @list _ a _ _ len cap c e z base spot own blk free hlen hcap fits hrows cells =>
          have hrow : rows[i]? = some (rows.getD i []) := by rw [List.getD_eq_getElem?_getD, List.getElem?_eq_getElem hcond.1]; rfl
          have hrl := hrows i _ hrow
          refine .rop (c := c) (e := e) (z := z) rfl ((hL _ _ _ R own hr).1 p m i j rfl) blk ?_ ?_
          · simp only [List.length_map,List.length_drop,hrl]
            have hj : j ≤ sz := by have := hcond.2; omega
            have hi := hcond.1
            have : (i + 1) * sz ≤ cap0 * sz := Nat.mul_le_mul_right _ (by omega)
            rw [Nat.add_mul] at this
            show a0.off + i * sz + j + (sz - j) ≤ c.size
            omega
          · intro k' x hx
            rw [List.getElem?_map] at hx
            obtain ⟨x0, hx0, rfl⟩ := Option.map_eq_some_iff.1 hx
            rw [List.getElem?_drop] at hx0
            have := (cells i _ _ _ hrow hx0).lend hk (fun b q hb => ⟨rfl, (hL b _ _ R (by simpa [Loc.at] using hb) hr).1 p m i j rfl⟩)
            show RepR w owC x0.toRO (c.getD (a0.off + i * sz + j + k') undef)
            rwa [show a0.off + i * sz + (j + k') = a0.off + i * sz + j + k' from by omega] at this
      · cases hc
    · cases hc
  | agg => cases hc
  | tup => cases hc
  | rop spot own blk fits cells =>
    simp only [lendC,Option.some.injEq] at hc
    subst hc
    exact .rop spot (hC _ own) blk fits (fun j x hx => (cells j x hx).mono hk)
  | bxv => cases hc
  | @fn f caps vs hl hh =>
    simp only [lendC,Option.some.injEq] at hc
    subst hc
    refine .fn hl (fun k cs hk' => ?_)
    have := hh k cs hk'
    generalize vs.getD k undef = z at this
    cases this with
    | rop spot own blk fits cells => exact .rop spot (hC _ own) blk fits (fun j x hx => (cells j x hx).mono hk)
  | undef => cases hc
end Go.VM
/- Numbers of roots, shifted: what is told under one numbering is told under another. -/
namespace Go.VM
theorem ropAny {w ow bs st fr bs' st' fr'} {cs : List T} {v : Value} (h : RelV w ow bs st fr (.rop cs) v) : RelV w ow bs' st' fr' (.rop cs) v := by
  cases h with | rop a b c d e => exact .rop a b c d e
/-- A cell under another number. -/
theorem shiftC {w ow bs st fr w' ow' bs' st' fr'} {c : CT} {t t' : Nat} {v : Value} (h : RelV w ow bs st fr (c.vv t) v) (hb : bs' (t', []) = bs (t, [])) (hf : ¬ fr' t') (hk : Kept w ow w' ow' ∨ c.fine fun v sz es => RepR w' ow' (.list false sz es) v) : RelV w' ow' bs' st' fr' (c.vv t') v := by
  cases c with
  | v y =>
    cases y with
    | list o sz es =>
      cases o with
      | true =>
        cases h with
        | al h1 h2 h3 h4 => exact .al hf (fun _ => by rw [hb]; exact h2 (.inl rfl)) h3 (fun _ _ => Nat.zero_le _)
      | false =>
        cases h with
        | c h =>
          rcases hk with hk | hk
          · exact .c (h.mono hk)
          · exact hk.elim
    | held v sz es =>
      cases h with
      | c h =>
        rcases hk with hk | hk
        · exact .c (h.mono hk)
        · cases h with | held h => exact .c (.held hk)
    | int k n => cases h with | c h => cases h; exact .c .int
    | bool b => cases h with | c h => cases h; exact .c .bool
    | str s => cases h with | c h => cases h; exact .c .str
    | dead => cases h with | c h => exact .c .dead
  | box xs => cases h with | ptr h1 h2 h3 h4 => exact .ptr hf (fun _ => by rw [hb]; exact h2 (.inl rfl)) h3 (fun _ _ => Nat.zero_le _)
  | ref cs =>
    rcases hk with hk | hk
    · have := h.mono hk (Quiet.refl bs st fr)
      cases this with | rop a b c d e => exact .rop a b c d e
    · exact hk.elim
  | fn f caps =>
    rcases hk with hk | hk
    · have := h.mono hk (Quiet.refl bs st fr)
      cases this with
      | fn hl hh => exact .fn hl (fun k cs hk => ropAny (hh k cs hk))
    · have : caps = [] := hk
      subst this
      cases h with
      | fn hl hh => exact .fn hl (fun k cs hk => by simp at hk)
theorem cvv_length : ∀ (cs : List CT) (b : Nat), (cvv b cs).length = cs.length
  | [], _ => rfl
  | c :: cs, b => by simp [cvv,cvv_length cs]
theorem cvv_get : ∀ {cs : List CT} {b k : Nat} {y : VV}, (cvv b cs)[k]? = some y → ∃ c, cs[k]? = some c ∧ y = c.vv (b + k)
  | [], b, k, y, h => by simp [cvv] at h
  | c :: cs, b, k, y, h => by
    cases k with
    | zero => simp [cvv] at h; exact ⟨c, rfl, h.symm⟩
    | succ k =>
      obtain ⟨c', e1, e2⟩ := cvv_get (cs := cs) (b := b + 1) (k := k) (by simpa [cvv] using h)
      exact ⟨c', by simpa using e1, by rw [e2, show b + 1 + k = b + (k + 1) from by omega]⟩
theorem cvv_at : ∀ {cs : List CT} {b k : Nat} {c : CT}, cs[k]? = some c → (cvv b cs)[k]? = some (c.vv (b + k))
  | [], b, k, y, h => by simp at h
  | c :: cs, b, k, y, h => by
    cases k with
    | zero => simp at h; subst h; rfl
    | succ k =>
      have := cvv_at (cs := cs) (b := b + 1) (k := k) (by simpa using h)
      rw [show b + 1 + k = b + (k + 1) from by omega] at this
      simpa [cvv] using this
theorem shiftR {w ow bs st fr w' ow' bs' st' fr'} {o : RT} {t t' : Nat} {v : Value} (h : RelV w ow bs st fr (o.vv t) v) (hc : ∀ (k : Nat) (c : CT) (u : Value), o.cells[k]? = some c → RelV w ow bs st fr (c.vv (t + k)) u → RelV w' ow' bs' st' fr' (c.vv (t' + k)) u) : RelV w' ow' bs' st' fr' (o.vv t') v := by
  cases o with
  | one c => simpa [RT.vv] using hc 0 c v rfl (by simpa [RT.vv] using h)
  | agg cs =>
    cases h with
    | agg hl hh =>
      refine .agg (by rw [cvv_length] at hl ⊢; exact hl) (fun k x hx => ?_)
      obtain ⟨c, e1, rfl⟩ := cvv_get hx
      exact hc k c _ e1 (hh k _ (cvv_at e1))
theorem rvv_get : ∀ {outs : List RT} {b j : Nat} {x : VV}, (rvv b outs)[j]? = some x → ∃ o off, outs[j]? = some o ∧ x = o.vv (b + off) ∧ (∀ b', (rvv b' outs)[j]? = some (o.vv (b' + off))) ∧ ∀ (k : Nat) (c : CT), o.cells[k]? = some c → (rcells outs)[off + k]? = some c
  | [], b, j, x, h => by simp [rvv] at h
  | o :: outs, b, j, x, h => by
    cases j with
    | zero =>
      simp only [rvv,List.getElem?_cons_zero,Option.some.injEq] at h
      refine ⟨o, 0, rfl, by simpa using h.symm, fun b' => by simp [rvv], fun k c hk => ?_⟩
      simp only [rcells,List.flatMap_cons,Nat.zero_add]
      rw [List.getElem?_append_left (lt_of_getl hk)]; exact hk
    | succ j =>
      obtain ⟨o', off, e1, e2, e3, e4⟩ := rvv_get (outs := outs) (b := b + o.cells.length) (j := j) (by simpa [rvv] using h)
      refine ⟨o', o.cells.length + off, by simpa using e1, by rw [e2]; congr 1; omega, fun b' => ?_, fun k c hk => ?_⟩
      · have := e3 (b' + o.cells.length)
        rw [show b' + o.cells.length + off = b' + (o.cells.length + off) from by omega] at this
        simpa [rvv] using this
      · simp only [rcells,List.flatMap_cons]
        rw [List.getElem?_append_right (by omega), show o.cells.length + off + k - o.cells.length = off + k from by omega]
        exact e4 k c hk
theorem rvv_length : ∀ (l : List RT) (b : Nat), (rvv b l).length = l.length
  | [], _ => rfl
  | x :: l, b => by simp [rvv,rvv_length l]
theorem shiftOut {w ow bs st fr w' ow' bs' st' fr'} {outs : List RT} {b b' : Nat} {v : Value} (h : RelV w ow bs st fr (outL (rvv b outs)) v)
    (hc : ∀ (k : Nat) (c : CT) (u : Value), (rcells outs)[k]? = some c → RelV w ow bs st fr (c.vv (b + k)) u → RelV w' ow' bs' st' fr' (c.vv (b' + k)) u) : RelV w' ow' bs' st' fr' (outL (rvv b' outs)) v := by
  have one : ∀ (j : Nat) (x y : VV) (u : Value), (rvv b outs)[j]? = some x → (rvv b' outs)[j]? = some y → RelV w ow bs st fr x u → RelV w' ow' bs' st' fr' y u := by
    intro j x y u hx hy hr
    obtain ⟨o, off, e1, e2, e3, e4⟩ := rvv_get hx
    rw [e3 b'] at hy
    simp only [Option.some.injEq] at hy
    subst e2 hy
    refine shiftR hr (fun k c z hk hz => ?_)
    have := hc (off + k) c z (e4 k c hk) (by rwa [show b + (off + k) = b + off + k from by omega])
    rwa [show b' + (off + k) = b' + off + k from by omega] at this
  have hl : (rvv b outs).length = (rvv b' outs).length := by rw [rvv_length, rvv_length]
  generalize rvv b outs = xs at *
  generalize rvv b' outs = ys at *
  match xs, ys, hl with
  | [], [], _ =>
    cases h with
    | tup hl hh => exact .tup hl (fun k x hx => by simp at hx)
  | [x], [y], _ => exact one 0 x y v rfl rfl h
  | x :: x2 :: xs, y :: y2 :: ys, hl =>
    cases h with
    | tup hlen hh =>
      refine .tup (by rw [← hl]; exact hlen) (fun k z hz => ?_)
      have hk := lt_of_getl hz
      have hx : (x :: x2 :: xs)[k]? = some ((x :: x2 :: xs)[k]'(by omega)) := List.getElem?_eq_getElem (by omega)
      exact one k _ z _ hx hz (hh k _ hx)
theorem cups_set {st : St} : ∀ {cs : List CT} {b k : Nat} {c : CT}, cs[k]? = some c → (∀ sz es, c = .v (.list true sz es) → (st.ups (cups b cs)) (b + k) = some ⟨false, sz, es, []⟩) ∧ (∀ xs, c = .box xs → (st.ups (cups b cs)) (b + k) = some ⟨true, xs.length, [xs], []⟩)
  | [], b, k, c, h => by simp at h
  | c0 :: cs, b, k, c, h => by
    cases k with
    | zero =>
      simp only [List.getElem?_cons_zero,Option.some.injEq] at h
      subst h
      have low : ∀ (st : St) (cs : List CT) (b' : Nat), b < b' → (st.ups (cups b' cs)) b = st b := by
        intro st cs
        induction cs generalizing st with
        | nil => intro b' _; rfl
        | cons c cs ih =>
          intro b' hb
          simp only [cups,St.ups_append]
          rw [ih _ _ (by omega)]
          cases c with
          | v y => cases y with
            | list o sz es => cases o <;> simp [CT.ups,St.ups_cons,St.ups_nil]; exact St.put_ne _ _ (by omega)
            | _ => rfl
          | box xs => simp [CT.ups,St.ups_cons,St.ups_nil]; exact St.put_ne _ _ (by omega)
          | _ => rfl
      constructor
      · rintro sz es rfl
        simp only [cups,St.ups_append,Nat.add_zero]
        rw [low _ _ _ (by omega)]
        simp [CT.ups,St.ups_cons,St.ups_nil]
      · rintro xs rfl
        simp only [cups,St.ups_append,Nat.add_zero]
        rw [low _ _ _ (by omega)]
        simp [CT.ups,St.ups_cons,St.ups_nil]
    | succ k =>
      have := cups_set (st := st.ups (c0.ups b)) (cs := cs) (b := b + 1) (k := k) (by simpa using h)
      simp only [cups,St.ups_append]
      rwa [show b + 1 + k = b + (k + 1) from by omega] at this
end Go.VM
/- Back from a call: memory as the caller sees it. -/
namespace Go.VM
/-- What is given back: the caller's root, the callee's number, the tree. -/
abbrev Bk := List (Nat × Nat × Root)
def bkFind (B : Bk) (k : Nat) : Option Nat := (B.find? fun b => b.2.1 == k).map (·.1)
def rtFind (B : Bk) (r : Nat) : Option Nat := (B.find? fun b => b.1 == r).map (·.2.1)
def owC (fid n : Nat) (owB : Own) : Own := fun b => match owB b with | some (r, q) => if fid ≤ r ∧ r < fid + n then some (r - fid, q) else none | none => none
def bsC (fid : Nat) (bsB : Base) : Base := fun ℓ => bsB (fid + ℓ.1, ℓ.2)
def owD (fid n : Nat) (B : Bk) (owB ow' : Own) : Own := fun b =>
  match ow' b with
  | some (r, q) => if RB ≤ r then (if r < RB + 1024 then some (fid + (r - RB), q) else none) else (match bkFind B r with | some r0 => some (r0, q) | none => none)
  | none => match owB b with | some ℓ => if fid ≤ ℓ.1 ∧ ℓ.1 < fid + n then none else some ℓ | none => none
def bsD (fid : Nat) (B : Bk) (bs' bsB : Base) : Base := fun ℓ =>
  if fid ≤ ℓ.1 ∧ ℓ.1 < fid + 1024 then bs' (RB + (ℓ.1 - fid), ℓ.2) else match rtFind B ℓ.1 with | some k => bs' (k, ℓ.2) | none => bsB ℓ
def backU (st : St) : Bk → Option Ups
  | [] => some []
  | b :: l => match st b.1 with | some R0 => (backU st l).map ((b.1, some { b.2.2 with log := R0.log ++ [[]] }) :: ·) | none => none
theorem backU_get {st st1 : St} : ∀ {B : Bk} {u : Ups} {r : Nat} {R : Root}, backU st B = some u → (st1.ups u) r = some R →
    (∃ b ∈ B, b.1 = r ∧ ∃ R0, st r = some R0 ∧ R = { b.2.2 with log := R0.log ++ [[]] }) ∨ (st1 r = some R ∧ ∀ b ∈ B, b.1 ≠ r)
  | [], u, r, R, h, hr => by
    simp only [backU,Option.some.injEq] at h
    subst h
    exact .inr ⟨hr, fun b hb => by cases hb⟩
  | b :: B, u, r, R, h, hr => by
    simp only [backU] at h
    split at h
    · rename_i R0 h0
      rw [Option.map_eq_some_iff] at h
      obtain ⟨u', h1, rfl⟩ := h
      simp only [St.ups_cons] at hr
      rcases backU_get h1 hr with ⟨b', hb, e1, e2⟩ | ⟨e1, e2⟩
      · exact .inl ⟨b', List.mem_cons_of_mem _ hb, e1, e2⟩
      · by_cases e : r = b.1
        · subst e
          simp only [St.put_eq,Option.some.injEq] at e1
          exact .inl ⟨b, by simp, rfl, R0, h0, e1.symm⟩
        · rw [St.put_ne _ _ e] at e1
          refine .inr ⟨e1, fun b' hb => ?_⟩
          rcases List.mem_cons.1 hb with rfl | hb
          · exact fun x => e x.symm
          · exact e2 b' hb
    · cases h
theorem rtFind_some {B : Bk} (hn : (B.map (·.1)).Nodup) {b : Nat × Nat × Root} (hb : b ∈ B) : rtFind B b.1 = some b.2.1 := by
  induction B with
  | nil => cases hb
  | cons b0 B ih =>
    simp only [List.map_cons,List.nodup_cons] at hn
    simp only [rtFind,List.find?_cons]
    by_cases e : b0.1 = b.1
    · rcases List.mem_cons.1 hb with rfl | hb'
      · simp
      · have hm : b0.1 ∈ B.map (·.1) := by rw [e]; exact List.mem_map.2 ⟨b, hb', rfl⟩
        exact absurd hm hn.1
    · have e' : (b0.1 == b.1) = false := by simpa using e
      rcases List.mem_cons.1 hb with rfl | hb'
      · exact absurd rfl e
      · have := ih hn.2 hb'
        simp only [rtFind] at this
        simpa [e'] using this
theorem rtFind_none {B : Bk} {r : Nat} (h : ∀ b ∈ B, b.1 ≠ r) : rtFind B r = none := by
  simp only [rtFind,Option.map_eq_none_iff,List.find?_eq_none]
  intro b hb
  simpa using h b hb
theorem bkFind_mem {B : Bk} {r k : Nat} (h : bkFind B k = some r) : ∃ b ∈ B, b.1 = r ∧ b.2.1 = k := by
  simp only [bkFind,Option.map_eq_some_iff] at h
  obtain ⟨b, h1, h2⟩ := h
  exact ⟨b, List.mem_of_find?_eq_some h1, h2, by simpa using List.find?_some h1⟩
theorem bkFind_some {B : Bk} (hn : (B.map (·.2.1)).Nodup) {b : Nat × Nat × Root} (hb : b ∈ B) : bkFind B b.2.1 = some b.1 := by
  induction B with
  | nil => cases hb
  | cons b0 B ih =>
    simp only [List.map_cons,List.nodup_cons] at hn
    simp only [bkFind,List.find?_cons]
    by_cases e : b0.2.1 = b.2.1
    · rcases List.mem_cons.1 hb with rfl | hb'
      · simp
      · have hm : b0.2.1 ∈ B.map (·.2.1) := by rw [e]; exact List.mem_map.2 ⟨b, hb', rfl⟩
        exact absurd hm hn.1
    · have e' : (b0.2.1 == b.2.1) = false := by simpa using e
      rcases List.mem_cons.1 hb with rfl | hb'
      · exact absurd rfl e
      · have := ih hn.2 hb'
        simp only [bkFind] at this
        simpa [e'] using this
theorem backs_set {st : St} : ∀ {B : Bk}, (B.map (·.2.1)).Nodup → ∀ b ∈ B, (st.ups ((B.map fun b => (b.2.1, b.2.2)).map fun p => (p.1, some p.2))) b.2.1 = some b.2.2
  | [], _, b, hb => by cases hb
  | b0 :: B, hn, b, hb => by
    simp only [List.map_cons,List.nodup_cons] at hn
    simp only [List.map_cons,St.ups_cons]
    rcases List.mem_cons.1 hb with rfl | hb'
    · rw [ups_other (fun r R' hm e => ?_)]
      · simp
      · simp only [List.mem_map] at hm
        obtain ⟨p, ⟨b1, h1, rfl⟩, h2⟩ := hm
        simp only [Prod.mk.injEq] at h2
        exact hn.1 (List.mem_map.2 ⟨b1, h1, by rw [h2.1]; exact e⟩)
    · exact backs_set hn.2 b hb'
/-- Memory behind the call. -/
theorem back_rel {w w' : World} {ow bs st} {fr : Nat → Prop} {fid n : Nat} {owB bsB stB} {ow' bs'} {outs : List RT} {B : Bk} {u bu : Ups} (h0 : Rel w ow bs st fr) (hroom : Room fr fid) (hn : n ≤ 1024)
    (hB : Rel w owB bsB stB (fun x => fr x ∧ ¬ (fid ≤ x ∧ x < fid + n))) (hkB : Kept w ow w owB) (hqB : Quiet bs st fr bsB stB (fun x => fr x ∧ ¬ (fid ≤ x ∧ x < fid + n))) (agree : ∀ r, ¬ fr r → stB r = (st.ups u) r) (hu : ∀ r R', (r, R') ∈ u → ¬ fr r)
    (hs : Steady w (owC fid n owB) w' ow') (h' : Rel w' ow' bs' (stOut outs (B.map fun b => (b.2.1, b.2.2))) (fun _ => False)) (hback : ∀ b ∈ B, bs' (b.2.1, []) = bsB (fid + b.2.1, []))
    (hbase : ∀ b ∈ B, ¬ fr b.1 ∧ bsB (fid + b.2.1, []) = bs (b.1, []) ∧ b.2.1 < n) (hn1 : (B.map (·.1)).Nodup) (hn2 : (B.map (·.2.1)).Nodup) (hbu : backU st B = some bu)
    {H : Value → Nat → List (List T) → Prop} (hH : ∀ v sz es, H v sz es → RepR w ow (.list false sz es) v) (hc1 : ∀ c ∈ rcells outs, c.fine H) (hc2 : ∀ b ∈ B, fineRs H b.2.2.rows) (hm : (rcells outs).length ≤ 1024) :
    Rel w' (owD fid n B owB ow') (bsD fid B bs' bsB) (st.ups (u ++ bu ++ cups fid (rcells outs))) (minus fr fid) ∧ Steady w ow w' (owD fid n B owB ow') ∧
    Quiet bs st fr (bsD fid B bs' bsB) (st.ups (u ++ bu ++ cups fid (rcells outs))) (minus fr fid) := by
  have mine : ∀ x, fid ≤ x ∧ x < fid + 1024 → fr x := fun x hx => by have := hroom (x - fid) (by omega); rwa [show fid + (x - fid) = x from by omega] at this
  have hn' : ∀ b ∈ B, b.2.1 < RB := fun b hb => by have := (hbase b hb).2.2; simp only [RB]; omega
  -- what stands at a root now
  have look : ∀ r R, (st.ups (u ++ bu ++ cups fid (rcells outs))) r = some R →
      (∃ k c, (rcells outs)[k]? = some c ∧ r = fid + k ∧ ((∃ sz es, c = .v (.list true sz es) ∧ R = ⟨false, sz, es, []⟩) ∨ (∃ xs, c = .box xs ∧ R = ⟨true, xs.length, [xs], []⟩))) ∨
      (∃ b ∈ B, b.1 = r ∧ ∃ R0, st r = some R0 ∧ R = { b.2.2 with log := R0.log ++ [[]] }) ∨ (¬ fr r ∧ stB r = some R ∧ ∀ b ∈ B, b.1 ≠ r) := by
    intro r R hr
    simp only [St.ups_append] at hr
    rcases cups_get hr with h | hr
    · exact .inl h
    · rcases backU_get hbu hr with h | ⟨h1, h2⟩
      · exact .inr (.inl h)
      · have hf : ¬ fr r := by
          intro hf
          rw [ups_other (fun r' R' hm e => hu r' R' hm (by rw [e]; exact hf)), h0.free r hf] at h1
          cases h1
        exact .inr (.inr ⟨hf, by rw [agree r hf]; exact h1, h2⟩)
  have hk' : Kept w owB w' (owD fid n B owB ow') := by
    intro b hb hlt
    have hC : owC fid n owB b = none := by simp [owC,hb]
    obtain ⟨e1, e2⟩ := hs.kept b hC hlt
    exact ⟨e1, by simp [owD,e2,hb]⟩
  have hkW : Kept w ow w' (owD fid n B owB ow') := fun b hb hlt => by
    have e1 := hkB b hb hlt
    have e2 := hk' b e1.2 hlt
    exact ⟨e2.1.trans rfl, e2.2⟩
  have hH' : ∀ v sz es, H v sz es → RepR w' (owD fid n B owB ow') (.list false sz es) v := fun v sz es h => (hH v sz es h).mono hkW
  have outAt : ∀ (k : Nat) (c : CT), (rcells outs)[k]? = some c → k < 1024 ∧ c.fine (fun v sz es => RepR w' (owD fid n B owB ow') (.list false sz es) v) := fun k c hk => ⟨by have := lt_of_getl hk; omega, CT.fine_imp hH' (hc1 c (List.mem_of_getElem? hk))⟩
  have stOutAt : ∀ (k : Nat) (c : CT), (rcells outs)[k]? = some c → (∀ sz es, c = .v (.list true sz es) → stOut outs (B.map fun b => (b.2.1, b.2.2)) (RB + k) = some ⟨false, sz, es, []⟩) ∧ (∀ xs, c = .box xs → stOut outs (B.map fun b => (b.2.1, b.2.2)) (RB + k) = some ⟨true, xs.length, [xs], []⟩) := by
    intro k c hk
    have hne : ∀ st : St, (st.ups ((B.map fun b => (b.2.1, b.2.2)).map fun p => (p.1, some p.2))) (RB + k) = st (RB + k) := by
      intro st
      refine ups_other (fun r R' hm e => ?_)
      simp only [List.mem_map] at hm
      obtain ⟨p, ⟨b1, h1, rfl⟩, h2⟩ := hm
      simp only [Prod.mk.injEq] at h2
      have := hn' b1 h1
      omega
    obtain ⟨q1, q2⟩ := cups_set (st := st0) (b := RB) hk
    exact ⟨fun sz es e => by simp only [stOut,St.ups_append]; rw [hne]; exact q1 sz es e, fun xs e => by simp only [stOut,St.ups_append]; rw [hne]; exact q2 xs e⟩
  have movedOut : ∀ k, k < 1024 → Moved w' ow' bs' (RB + k, []) w' (owD fid n B owB ow') (bsD fid B bs' bsB) (fid + k, []) := by
    intro k hk
    refine ⟨fun b p hb => ⟨rfl, ?_⟩, fun p => ?_⟩
    · simp only [List.nil_append] at hb ⊢
      simp only [owD,hb]
      rw [if_pos (by omega), if_pos (by omega), show RB + k - RB = k from by omega]
    · simp only [List.nil_append,bsD]
      rw [if_pos (by omega), show fid + k - fid = k from by omega]
  have notMine : ∀ r, ¬ fr r → ¬ (fid ≤ r ∧ r < fid + 1024) := fun r hr hx => hr (mine r hx)
  have baseOld : ∀ r, ¬ fr r → (∀ b ∈ B, b.1 ≠ r) → ∀ p, bsD fid B bs' bsB (r, p) = bsB (r, p) := by
    intro r hr hb p
    simp only [bsD]
    rw [if_neg (notMine r hr), rtFind_none hb]
  have baseBack : ∀ b ∈ B, ∀ p, bsD fid B bs' bsB (b.1, p) = bs' (b.2.1, p) := by
    intro b hb p
    simp only [bsD]
    rw [if_neg (notMine _ (hbase b hb).1), rtFind_some hn1 hb]
  refine ⟨⟨fun r R hr => ?_, fun r R hr hbox => ?_, fun b ℓ hb => ?_, fun r hr => ?_⟩, ⟨fun b hb hlt => ?_, hs.size, hs.os, hs.tape, hs.output⟩, ?_⟩
  · rcases look r R hr with ⟨k, c, hk, rfl, hR⟩ | ⟨b, hb, rfl, R0, e1, rfl⟩ | ⟨hf, e1, e2⟩
    · obtain ⟨k1, k2⟩ := outAt k c hk
      obtain ⟨s1, s2⟩ := stOutAt k c hk
      have hb : bsD fid B bs' bsB (fid + k, []) = bs' (RB + k, []) := by simpa using (movedOut k k1).2 []
      rw [hb]
      rcases hR with ⟨sz, es, rfl, rfl⟩ | ⟨xs, rfl, rfl⟩
      · exact (h'.root _ _ (s1 sz es rfl)).moveFine k2 (movedOut k k1)
      · exact (h'.root _ _ (s2 xs rfl)).moveFine (by simp only [T.fine,fineRs,and_true]; exact k2) (movedOut k k1)
    · have hst : stOut outs (B.map fun b => (b.2.1, b.2.2)) b.2.1 = some b.2.2 := by
        simp only [stOut,St.ups_append]; exact backs_set hn2 b hb
      rw [baseBack b hb]
      refine (h'.root _ _ hst).moveFine (by simp only [T.fine]; exact fineRs_imp hH' (hc2 b hb)) ⟨fun x p hx => ⟨rfl, ?_⟩, fun p => by simpa using baseBack b hb p⟩
      simp only [List.nil_append] at hx ⊢
      simp only [owD,hx]
      rw [if_neg (by have := hn' b hb; omega), bkFind_some hn2 hb]
    · rw [baseOld r hf e2]
      refine (hB.root r R e1).move hk' ⟨fun b p hb => ?_, fun p => by simpa using baseOld r hf e2 p⟩
      simp only [List.nil_append] at hb ⊢
      have hnr : ¬ (fid ≤ r ∧ r < fid + n) := fun hx => notMine r hf ⟨hx.1, by omega⟩
      have hC : owC fid n owB b = none := by simp only [owC,hb]; rw [if_neg hnr]
      obtain ⟨q1, q2⟩ := hs.kept b hC (hB.own b _ hb).2
      refine ⟨q1, ?_⟩
      simp only [owD,q2,hb]
      rw [if_neg hnr]
  · rcases look r R hr with ⟨k, c, hk, rfl, hR⟩ | ⟨b, hb, rfl, R0, e1, rfl⟩ | ⟨hf, e1, e2⟩
    · obtain ⟨k1, k2⟩ := outAt k c hk
      obtain ⟨s1, s2⟩ := stOutAt k c hk
      have hb : bsD fid B bs' bsB (fid + k, []) = bs' (RB + k, []) := by simpa using (movedOut k k1).2 []
      rw [hb]
      rcases hR with ⟨sz, es, rfl, rfl⟩ | ⟨xs, rfl, rfl⟩
      · cases hbox
      · exact h'.box _ _ (s2 xs rfl) rfl
    · have hst : stOut outs (B.map fun b => (b.2.1, b.2.2)) b.2.1 = some b.2.2 := by
        simp only [stOut,St.ups_append]; exact backs_set hn2 b hb
      rw [baseBack b hb]
      exact h'.box _ _ hst hbox
    · rw [baseOld r hf e2]
      exact hB.box r R e1 hbox
  · simp only [owD] at hb
    split at hb
    · rename_i r q hq
      have hsz := (h'.own b _ hq).2
      split at hb
      · split at hb
        · simp only [Option.some.injEq] at hb
          subst hb
          exact ⟨fun x => x.2 ⟨by show fid ≤ fid + (r - RB); omega, by show fid + (r - RB) < fid + 1024; omega⟩, hsz⟩
        · cases hb
      · split at hb
        · rename_i r0 hr0
          simp only [Option.some.injEq] at hb
          subst hb
          obtain ⟨b', h1, rfl, h3⟩ := bkFind_mem hr0
          exact ⟨fun x => (hbase b' h1).1 x.1, hsz⟩
        · cases hb
    · split at hb
      · rename_i ℓ' hℓ
        split at hb
        · cases hb
        · rename_i hnr
          simp only [Option.some.injEq] at hb
          subst hb
          have := hB.own b _ hℓ
          exact ⟨fun x => this.1 ⟨x.1, hnr⟩, Nat.lt_of_lt_of_le this.2 hs.size⟩
      · cases hb
  · cases hx : (st.ups (u ++ bu ++ cups fid (rcells outs))) r with
    | none => rfl
    | some R =>
      rcases look r R hx with ⟨k, c, hk, rfl, hR⟩ | ⟨b, hb, rfl, _⟩ | ⟨hf, _⟩
      · exact absurd ⟨by omega, by have := (outAt k c hk).1; omega⟩ hr.2
      · exact absurd hr.1 (hbase b hb).1
      · exact absurd hr.1 hf
  · have e1 := hkB b hb hlt
    have e2 := hk' b e1.2 hlt
    exact ⟨e2.1.trans rfl, e2.2⟩
  · refine ⟨fun r hr => ?_, fun r p m hr hp hm' hst => ?_, fun r R' hr hR' => ?_, fun r hr => hr.1⟩
    · by_cases hb : ∃ b ∈ B, b.1 = r
      · obtain ⟨b, hb, rfl⟩ := hb
        rw [baseBack b hb, hback b hb, (hbase b hb).2.1]
      · rw [baseOld r hr (fun b hb' e => hb ⟨b, hb', e⟩), hqB.base r hr]
    · rcases hst with h | ⟨R, hR, hfresh⟩
      · exact absurd h hp
      · rcases look r R hR with ⟨k, c, hk, rfl, _⟩ | ⟨b, hb, rfl, R0, e1, rfl⟩ | ⟨hf, e1, e2⟩
        · exact absurd (mine _ ⟨by omega, by have := (outAt k c hk).1; omega⟩) hr
        · exfalso
          have hle := hm' R0 e1
          simp only [fresh,Bool.or_eq_true] at hfresh
          rcases hfresh with hfresh | hfresh
          · cases p with | nil => exact hp rfl | cons x p => simp at hfresh
          · rw [List.all_eq_true] at hfresh
            have := hfresh [] (by rw [List.drop_append_of_le_length hle]; simp)
            simp at this
        · rw [baseOld r hf e2]
          exact hqB.still r p m hr hp hm' (.inr ⟨R, e1, hfresh⟩)
    · rcases look r R' hR' with ⟨k, c, hk, rfl, _⟩ | ⟨b, hb, rfl, R0, e1, rfl⟩ | ⟨hf, e1, e2⟩
      · exact absurd (mine _ ⟨by omega, by have := (outAt k c hk).1; omega⟩) hr
      · exact ⟨R0, e1, by simp⟩
      · exact hqB.log r R' hr e1
end Go.VM
/- A call is an operation: what its function does with trees, it does with the frame's roots. -/
namespace Go.VM
theorem merge_get {st : St} : ∀ {ys : List (Option CT)} {xs : List VV} {cs : List CT}, mergeCs st ys xs = some cs → cs.length = ys.length ∧ ys.length = xs.length ∧
    ∀ (k : Nat) (c : CT), cs[k]? = some c → ys[k]? = some (some c) ∨ (ys[k]? = some none ∧ ∃ x, xs[k]? = some x ∧ lendC st x = some c)
  | [], [], cs, h => by
    simp only [mergeCs,Option.some.injEq] at h
    subst h
    exact ⟨rfl, rfl, fun k c hk => by simp at hk⟩
  | [], _ :: _, cs, h => by simp [mergeCs] at h
  | some c0 :: ys, [], cs, h => by simp [mergeCs] at h
  | none :: ys, [], cs, h => by simp [mergeCs] at h
  | some c0 :: ys, x :: xs, cs, h => by
    simp only [mergeCs,Option.map_eq_some_iff] at h
    obtain ⟨cs', h1, rfl⟩ := h
    obtain ⟨e1, e2, e3⟩ := merge_get h1
    refine ⟨by simp [e1], by simp [e2], fun k c hk => ?_⟩
    cases k with
    | zero => simp at hk; subst hk; exact .inl rfl
    | succ k => simpa using e3 k c (by simpa using hk)
  | none :: ys, x :: xs, cs, h => by
    simp only [mergeCs] at h
    cases hl : lendC st x with
    | none => rw [hl] at h; cases h
    | some c0 =>
      rw [hl] at h
      simp only [Option.map_eq_some_iff] at h
      obtain ⟨cs', h1, rfl⟩ := h
      obtain ⟨e1, e2, e3⟩ := merge_get h1
      refine ⟨by simp [e1], by simp [e2], fun k c hk => ?_⟩
      cases k with
      | zero => simp at hk; subst hk; exact .inr ⟨rfl, x, rfl, hl⟩
      | succ k => simpa using e3 k c (by simpa using hk)
theorem lendC_congr {w ow bs st fr} {x : VV} {v : Value} {s1 s2 : St} (rx : RelV w ow bs st fr x v) (h : ∀ r, ¬ fr r → s1 r = s2 r) : lendC s1 x = lendC s2 x := by
  cases rx with
  | al hf _ _ _ => simp only [lendC,seek,h _ hf]
  | ptr hf _ _ _ => simp only [lendC,seek,h _ hf]
  | _ => rfl
/-- A cell that was lent has no root. -/
theorem lendC_noroot {st : St} {x : VV} {c : CT} (h : lendC st x = some c) : (∀ sz es, c ≠ .v (.list true sz es)) ∧ ∀ xs, c ≠ .box xs := by
  cases x with
  | c x =>
    simp only [lendC,Option.some.injEq] at h
    subst h
    refine ⟨fun sz es e => ?_, fun xs e => by cases e⟩
    simp only [CT.v.injEq] at e
    cases x <;> simp at e
  | nils sz => simp only [lendC,Option.some.injEq] at h; subst h; exact ⟨fun _ _ => by simp, fun _ => by simp⟩
  | al r p m sz off len =>
    simp only [lendC] at h
    split at h
    · split at h
      · simp only [Option.some.injEq] at h; subst h; exact ⟨fun _ _ => by simp, fun _ => by simp⟩
      · cases h
    · cases h
  | ptr r p m i j =>
    simp only [lendC] at h
    split at h
    · split at h
      · simp only [Option.some.injEq] at h; subst h; exact ⟨fun _ _ => by simp, fun _ => by simp⟩
      · cases h
    · cases h
  | rop cs => simp only [lendC,Option.some.injEq] at h; subst h; exact ⟨fun _ _ => by simp, fun _ => by simp⟩
  | bxv cs => cases h
  | fn f caps => simp only [lendC,Option.some.injEq] at h; subst h; exact ⟨fun _ _ => by simp, fun _ => by simp⟩
  | _ => cases h
/-- Memory as the callee sees it. -/
theorem enter_rel {w ow bs st} {fr : Nat → Prop} {fid n : Nat} {owB bsB stB} {ys : List (Option CT)} {xs : List VV} {vs : List Value} {cs : List CT} {u : Ups} (hroom : Room fr fid) (hn : n ≤ 1024) (hyn : ys.length = n)
    (hB : Rel w owB bsB stB (fun x => fr x ∧ ¬ (fid ≤ x ∧ x < fid + n))) (hkB : Kept w ow w owB) (hqB : Quiet bs st fr bsB stB (fun x => fr x ∧ ¬ (fid ≤ x ∧ x < fid + n))) (agree : ∀ r, ¬ fr r → stB r = (st.ups u) r)
    (hold : ∀ (k : Nat) (y : Option CT) (v : Value), ys[k]? = some y → vs[k]? = some v → HoldsA w owB bsB stB (fun x => fr x ∧ ¬ (fid ≤ x ∧ x < fid + n)) (fid + k) y v) (hlen : xs.length = vs.length)
    (hr : ∀ (k : Nat) (x : VV) (v : Value), xs[k]? = some x → vs[k]? = some v → RelV w ow bs st fr x v) (hm : mergeCs (st.ups u) ys xs = some cs) :
    Rel w (owC fid n owB) (bsC fid bsB) (st0.ups (cups 0 cs)) (fun x => cs.length ≤ x) ∧ ∀ (k : Nat) (c : CT) (v : Value), cs[k]? = some c → vs[k]? = some v → RelV w (owC fid n owB) (bsC fid bsB) (st0.ups (cups 0 cs)) (fun x => cs.length ≤ x) (c.vv (0 + k)) v := by
  obtain ⟨m1, m2, m3⟩ := merge_get hm
  have hkC : Kept w owB w (owC fid n owB) := fun b hb _ => ⟨rfl, by simp [owC,hb]⟩
  have mine : ∀ x, fid ≤ x ∧ x < fid + 1024 → fr x := fun x hx => by have := hroom (x - fid) (by omega); rwa [show fid + (x - fid) = x from by omega] at this
  have moved : ∀ k, k < n → Moved w owB bsB (fid + k, []) w (owC fid n owB) (bsC fid bsB) (k, []) := by
    intro k hk
    refine ⟨fun b p hb => ⟨rfl, ?_⟩, fun p => rfl⟩
    simp only [List.nil_append] at hb ⊢
    simp only [owC,hb]
    rw [if_pos (by omega), show fid + k - fid = k from by omega]
  have rooted : ∀ r R, (st0.ups (cups 0 cs)) r = some R → r < n ∧ stB (fid + r) = some R := by
    intro r R hR
    rcases cups_get hR with ⟨k, c, hk, rfl, hR'⟩ | hR
    · have hkn : k < n := by have := lt_of_getl hk; omega
      simp only [Nat.zero_add]
      rcases m3 k c hk with hy | ⟨_, x, _, hl⟩
      · have hv : vs[k]? = some (vs[k]'(by omega)) := List.getElem?_eq_getElem (by omega)
        have := (hold k _ _ hy hv c rfl).2
        rcases hR' with ⟨sz, es, rfl, rfl⟩ | ⟨xs, rfl, rfl⟩
        · exact ⟨hkn, this⟩
        · exact ⟨hkn, this⟩
      · obtain ⟨q1, q2⟩ := lendC_noroot hl
        rcases hR' with ⟨sz, es, e, _⟩ | ⟨xs, e, _⟩
        · exact absurd e (q1 sz es)
        · exact absurd e (q2 xs)
    · cases hR
  refine ⟨⟨fun r R hR => ?_, fun r R hR hbox => ?_, fun b ℓ hb => ?_, fun r hr => ?_⟩, fun k c v hk hv => ?_⟩
  · obtain ⟨h1, h2⟩ := rooted r R hR
    exact (hB.root _ R h2).move hkC (moved r h1)
  · obtain ⟨h1, h2⟩ := rooted r R hR
    exact hB.box _ R h2 hbox
  · simp only [owC] at hb
    split at hb
    · rename_i r q hq
      split at hb
      · simp only [Option.some.injEq] at hb
        subst hb
        exact ⟨by show ¬ cs.length ≤ r - fid; omega, (hB.own b _ hq).2⟩
      · cases hb
    · cases hb
  · cases hx : (st0.ups (cups 0 cs)) r with
    | none => rfl
    | some R =>
      have h1 := (rooted r R hx).1
      have h2 : cs.length ≤ r := hr
      omega
  · have hkn : k < n := by have := lt_of_getl hk; omega
    rw [Nat.zero_add]
    rcases m3 k c hk with hy | ⟨_, x, hx, hl⟩
    · have := (hold k _ _ hy hv c rfl).1
      exact shiftC this rfl (by show ¬ cs.length ≤ k; omega) (.inl hkC)
    · have rx := hr k x v hx hv
      have rxB : RelV w owB bsB stB (fun x => fr x ∧ ¬ (fid ≤ x ∧ x < fid + n)) x v := rx.mono hkB hqB
      rw [lendC_congr rx (fun r h => (agree r h).symm)] at hl
      have free : ∀ b r q, owB b = some (r, q) → ¬ fr r → owC fid n owB b = none := by
        intro b r q hb hf
        simp only [owC,hb]
        rw [if_neg (fun hx => hf (mine r ⟨hx.1, by omega⟩))]
      refine lendC_rel hB rxB (fun b hb => by simp [owC,hb]) (fun b r q R hb _ => ⟨fun p m i j e => ?_, fun p m sz off len e => ?_⟩) hl
      · subst e
        cases rx with | ptr hf _ _ _ => exact free b r q hb hf
      · subst e
        cases rx with | al hf _ _ _ => exact free b r q hb hf
theorem flat_modes : ∀ {ms : List Md} {xs : List VV}, ms.length = xs.length → ((ms.zip xs).flatMap fun p => p.2.cells.map fun y => (p.1, y)).map (·.2) = xs.flatMap VV.cells
  | [], [], _ => rfl
  | m :: ms, x :: xs, h => by
    simp only [List.zip_cons_cons,List.flatMap_cons,List.map_append,List.map_map]
    rw [flat_modes (by simpa using h)]
    congr 1
    exact List.map_id' _
/-- A list that is held is known: it stands in an argument, or in a root. -/
def Known (st : St) (xs : List VV) (v : Value) (sz : Nat) (es : List (List T)) : Prop := VV.c (.held v sz es) ∈ xs ∨ ∃ r R row, st r = some R ∧ row ∈ R.rows ∧ T.held v sz es ∈ row
theorem call_okH {P : Program} {fid : Nat} {o : Oper} {env : Nat → VV} {st : St} {c : Call} {g : Operand} {f : FuncId} {fn : Func} {caps : List (List T)} {ts : List TypeId} {ms : List Md} {xs : List VV} {ys : List (Option CT)} {u : Ups} {bk : List (Option Nat)} {cs : List CT}
    {args outs : List RT} {B : Bk} {bu : Ups} (hop : o.op = .call c) (hcal : c.callee = .value g) (hg : ev P env 0 g = .fn f caps) (hf : P.funcs[f]? = some fn) (hbody : fn.body.isNone = false) (hname : (fn.name == "runtime.NumGoroutine") = false)
    (hxs : xs = (c.args.toList.zip ts).map (fun p => ev P env p.2 p.1) ++ caps.map VV.rop) (hts : ts.length = c.args.size) (hms : ms.length = xs.length)
    (hhand : handCs st ((ms.zip xs).flatMap fun p => p.2.cells.map fun y => (p.1, y)) = some (ys, u, bk)) (hmerge : mergeCs (st.ups u) ys (xs.flatMap VV.cells) = some cs)
    (hshape : shapes xs args = true) (hcs : rcells args = cs) (hB : ∀ b ∈ B, bk[b.2.1]? = some (some b.1)) (hn1 : (B.map (·.1)).Nodup) (hn2 : (B.map (·.2.1)).Nodup) (hbu : backU st B = some bu)
    (hruns : Runs P f args outs (B.map fun b => (b.2.1, b.2.2))) (hc1 : ∀ c ∈ rcells outs, c.fine (Known st (xs.flatMap VV.cells))) (hc2 : ∀ b ∈ B, fineRs (Known st (xs.flatMap VV.cells)) b.2.2.rows) (hm : (rcells outs).length ≤ 1024) (hn : cs.length ≤ 1024) :
    OpOk P fid o env st ⟨outL (rvv fid outs), u ++ bu ++ cups fid (rcells outs)⟩ := by
  intro w ow bs fr a hr he hroom next Q hk
  have hgv := ev_rel (P := P) he 0 g
  rw [hg] at hgv
  obtain ⟨vs, hgeq, hvl, hvr⟩ : ∃ vs : Array Value, a.eval g = .func (.func f) #[] vs ∧ caps.length = vs.size ∧ ∀ (k : Nat) (cs : List T), caps[k]? = some cs → RelV w ow bs st fr (.rop cs) (vs.getD k undef) := by
    generalize a.eval g = z at hgv
    cases hgv with | fn hl hh => exact ⟨_, rfl, hl, hh⟩
  have hrun : (execOp a.eval o).run P w = .ok (.enter f (c.args.map a.eval ++ vs)) w := by
    have hname' : fn.name ≠ "runtime.NumGoroutine" := by simpa using hname
    simp [execOp,hop,resolve,hcal,hgeq,Deferred.ofValue,invoke,callFunc,hf,hname',hbody]
    intro hb
    rw [hb] at hbody
    cases hbody
  -- the values
  have hxr : xs.length = (c.args.map a.eval ++ vs).toList.length ∧ ∀ (k : Nat) (x : VV) (v : Value), xs[k]? = some x → (c.args.map a.eval ++ vs).toList[k]? = some v → RelV w ow bs st fr x v := by
    have hl1 : ((c.args.toList.zip ts).map (fun p => ev P env p.2 p.1)).length = c.args.size := by simp [hts]
    refine ⟨by rw [hxs]; simp [hts,hvl], fun k x v hx hv => ?_⟩
    rw [hxs] at hx
    simp only [Array.toList_append,Array.toList_map] at hv
    by_cases hkl : k < c.args.size
    · rw [List.getElem?_append_left (by omega)] at hx
      rw [List.getElem?_append_left (by simpa using hkl)] at hv
      rw [List.getElem?_map] at hx hv
      obtain ⟨p, h1, rfl⟩ := Option.map_eq_some_iff.1 hx
      obtain ⟨y, h2, rfl⟩ := Option.map_eq_some_iff.1 hv
      rw [List.getElem?_zip_eq_some] at h1
      rw [h1.1] at h2
      simp only [Option.some.injEq] at h2
      subst h2
      exact ev_rel he _ _
    · rw [List.getElem?_append_right (by omega)] at hx
      rw [List.getElem?_append_right (by simpa using hkl)] at hv
      rw [hl1, List.getElem?_map] at hx
      obtain ⟨cs', h1, rfl⟩ := Option.map_eq_some_iff.1 hx
      have := hvr _ _ h1
      simp only [List.length_map,Array.length_toList,Array.getElem?_toList] at hv
      rw [Array.getD_eq_getD_getElem?, hv] at this
      exact this
  obtain ⟨hxl, hxr⟩ := hxr
  obtain ⟨f1, f2⟩ := flatV_rel hxl hxr
  have hH : ∀ v sz es, Known st (xs.flatMap VV.cells) v sz es → RepR w ow (.list false sz es) v := by
    intro v sz es h
    rcases h with h | ⟨r, R, row, h1, h2, h3⟩
    · obtain ⟨k, hk⟩ := List.getElem?_of_mem h
      have hlt := lt_of_getl hk
      have := f2 k _ _ hk (List.getElem?_eq_getElem (by omega))
      cases this with | c h => cases h with | held h => exact h
    · have hroot := hr.root r R h1
      obtain ⟨i, hi⟩ := List.getElem?_of_mem h2
      obtain ⟨j, hj⟩ := List.getElem?_of_mem h3
      generalize (bs (r, [])).2 = z at hroot
      obtain ⟨bx, rsz, rrows, rlog⟩ := R
      simp only at hroot hi
      cases hroot with
      | ro h => cases h
      | nil => simp at hi
      | list _ _ _ _ _ _ _ _ _ cells =>
        have := cells i row j _ hi hj
        generalize Array.getD _ _ _ = z' at this
        cases this with | ro h => cases h with | held h => exact h
  have hL := flat_modes hms
  generalize hLdef : ((ms.zip xs).flatMap fun p => p.2.cells.map fun y => (p.1, y)) = L at hhand hL
  have hLl : L.length = (xs.flatMap VV.cells).length := by rw [← hL]; simp
  obtain ⟨m1, m2, m3⟩ := merge_get hmerge
  have hLn : L.length ≤ 1024 := by omega
  obtain ⟨owB, bsB, stB, g1, g2, g3, g4, g5, g6, g7, g8, g9, g10⟩ := handCs_sound L (flatV xs (c.args.map a.eval ++ vs).toList) ys u bk fid hr (fun k hk => hroom k (by omega)) (fun _ _ => rfl) (Quiet.refl _ _ _) (Kept.refl _ _) hhand (by omega)
    (fun k x v hx hv => f2 k x.2 v (by rw [← hL, List.getElem?_map, hx]; rfl) hv)
  obtain ⟨e1, e2⟩ := enter_rel (xs := xs.flatMap VV.cells) (vs := flatV xs (c.args.map a.eval ++ vs).toList) hroom hLn g5 g1 g2 g3 g4 g6 f1 f2 hmerge
  have hin : Each (RelV w (owC fid L.length owB) (bsC fid bsB) (st0.ups (cups 0 (rcells args))) (fun x => (rcells args).length ≤ x)) (rvv 0 args) (c.args.map a.eval ++ vs) := by
    rw [hcs]
    obtain ⟨o1, o2⟩ := out_rel (b := 0) hshape hxl hxr (fun k c' v hc hv => e2 k c' v (by rw [← hcs]; exact hc) hv)
    refine ⟨by simpa using o1, fun k x hx => ?_⟩
    have hlt := lt_of_getl hx
    have hv : (c.args.map a.eval ++ vs).toList[k]? = some ((c.args.map a.eval ++ vs).getD k undef) := by
      rw [Array.getElem?_toList, Array.getD_eq_getD_getElem?]
      have o1' : (rvv 0 args).length = (c.args.map a.eval ++ vs).size := by rw [o1]; exact Array.length_toList
      have hlt' : k < (c.args.map a.eval ++ vs).size := by omega
      rw [Array.getElem?_eq_getElem hlt']; rfl
    exact o2 k x _ hx hv
  have hrel0 : Rel w (owC fid L.length owB) (bsC fid bsB) (st0.ups (cups 0 (rcells args))) (fun x => (rcells args).length ≤ x) := by rw [hcs]; exact e1
  have hcalls := hruns w _ _ _ hrel0 hin
  unfold Oper.wp
  rw [hrun, Oper.upon_enter]
  refine hcalls.mono ?_
  rintro e w' ⟨v, ow', bs', rfl, hs, h', hv, hb⟩
  have hbase : ∀ b ∈ B, ¬ fr b.1 ∧ bsB (fid + b.2.1, []) = bs (b.1, []) ∧ b.2.1 < L.length := by
    intro b hb'
    obtain ⟨q1, q2, q3⟩ := g9 _ _ (hB b hb')
    exact ⟨q1, q2, by have := lt_of_getl (hB b hb'); omega⟩
  obtain ⟨r1, r2, r3⟩ := back_rel (outs := outs) hr hroom hLn g1 g2 g3 g4 g8 hs h' (fun b hb' => hb (b.2.1, b.2.2) (List.mem_map.2 ⟨b, hb', rfl⟩)) hbase hn1 hn2 hbu hH hc1 hc2 hm
  refine hk v w' _ _ r2 r1 ?_ r3
  refine shiftOut hv (fun k c' z hc hz => ?_)
  have hkn : k < 1024 := by have := lt_of_getl hc; omega
  refine shiftC hz ?_ (fun x => x.2 ⟨by omega, by omega⟩) (.inr (CT.fine_imp (fun v sz es h => (hH v sz es h).mono r2.kept) (hc1 c' (List.mem_of_getElem? hc))))
  simp only [bsD]
  rw [if_pos (by omega), show fid + k - fid = k from by omega]
theorem call_ok {P : Program} {fid : Nat} {o : Oper} {env : Nat → VV} {st : St} {c : Call} {g : Operand} {f : FuncId} {fn : Func} {caps : List (List T)} {ts : List TypeId} {ms : List Md} {xs : List VV} {ys : List (Option CT)} {u : Ups} {bk : List (Option Nat)} {cs : List CT}
    {args outs : List RT} {B : Bk} {bu : Ups} (hop : o.op = .call c) (hcal : c.callee = .value g) (hg : ev P env 0 g = .fn f caps) (hf : P.funcs[f]? = some fn) (hbody : fn.body.isNone = false) (hname : (fn.name == "runtime.NumGoroutine") = false)
    (hxs : xs = (c.args.toList.zip ts).map (fun p => ev P env p.2 p.1) ++ caps.map VV.rop) (hts : ts.length = c.args.size) (hms : ms.length = xs.length)
    (hhand : handCs st ((ms.zip xs).flatMap fun p => p.2.cells.map fun y => (p.1, y)) = some (ys, u, bk)) (hmerge : mergeCs (st.ups u) ys (xs.flatMap VV.cells) = some cs)
    (hshape : shapes xs args = true) (hcs : rcells args = cs) (hB : ∀ b ∈ B, bk[b.2.1]? = some (some b.1)) (hn1 : (B.map (·.1)).Nodup) (hn2 : (B.map (·.2.1)).Nodup) (hbu : backU st B = some bu)
    (hruns : Runs P f args outs (B.map fun b => (b.2.1, b.2.2))) (hc1 : (rcells outs).all CT.clean = true) (hc2 : B.all (fun b => cleanRs b.2.2.rows) = true) (hm : (rcells outs).length ≤ 1024) (hn : cs.length ≤ 1024) :
    OpOk P fid o env st ⟨outL (rvv fid outs), u ++ bu ++ cups fid (rcells outs)⟩ :=
  call_okH hop hcal hg hf hbody hname hxs hts hms hhand hmerge hshape hcs hB hn1 hn2 hbu hruns (fun c hc => CT.fine_of (List.all_eq_true.1 hc1 c hc)) (fun b hb => fineRs_of (List.all_eq_true.1 hc2 b hb)) hm hn
end Go.VM
