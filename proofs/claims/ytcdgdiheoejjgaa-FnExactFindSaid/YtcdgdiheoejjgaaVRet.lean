/- A function's body, walked, tells what the function does. -/
import Derived.Test.YtcdgdiheoejjgaaVRuns
namespace Go.VM
set_option linter.unusedSimpArgs false
set_option linter.unusedVariables false

/-- The results: slots, or variables that are loaded. -/
def resV (P : Program) (s : FS) : List ResultVar → Option (List VV)
  | [] => some []
  | .tmp t :: l => (resV P s l).map (s.env t :: ·)
  | .cell a t :: l => (match loadV P s.st t (s.env a) with | some v => (resV P s l).map (v :: ·) | none => none)

/-- At a function's end: its results, and what is given back. -/
def retV (P : Program) (fn : Func) (outs : List RT) (back : List (Nat × Root)) (K : Nat) (s : FS) : Prop :=
  ∃ vs, resV P s fn.results.toList = some vs ∧ s.nx ≤ RB ∧ shapes vs outs = true ∧
    ∃ u, takeCs s.st (vs.flatMap VV.cells) = some (rcells outs, u) ∧ ∀ p ∈ back, p.1 < K ∧ ∃ R, (s.st.ups u) p.1 = some R ∧ R.box = p.2.box ∧ R.sz = p.2.sz ∧ R.rows = p.2.rows

def endV (P : Program) (fn : Func) (outs : List RT) (back : List (Nat × Root)) (K : Nat) : Exit → FS → Prop
  | .normal, s => retV P fn outs back K s
  | .ret, s => retV P fn outs back K s
  | _, _ => False

def resG (tmps : Array Value) : ResultVar → Sem Value
  | .tmp t => pure (tmps.getD t undef)
  | .cell a t => do loadVar t (← asAddr (tmps.getD a undef))

theorem results_eq (fn : Func) (tmps : Array Value) : results fn tmps = (do let vs ← fn.results.mapM (resG tmps); pure (if h : vs.size = 1 then vs[0] else .tuple vs)) := by
  unfold results
  congr 1

theorem loadVar_run {P : Program} {w ow bs st fr} (h : Rel w ow bs st fr) {t : TypeId} {x z : VV} {v : Value} (rx : RelV w ow bs st fr x v) (hl : loadV P st t x = some z) :
    ∃ u, (do loadVar t (← asAddr v) : Sem Value).run P w = .ok u w ∧ RelV w ow bs st fr z u := by
  obtain ⟨u, h1, h2⟩ := loadV_run (P := P) h rx hl
  refine ⟨u, ?_, h2⟩
  have : ∃ a, v = .pointer (some a) := by
    cases rx with
    | ptr hf hs hv hm => obtain ⟨a, ha, _⟩ := hv; exact ⟨a, ha⟩
    | rop => exact ⟨_, rfl⟩
    | _ => cases hl
  obtain ⟨a, rfl⟩ := this
  simpa [Instr.loadAt, Instr.sureAddr, asAddr] using h1

theorem resV_run {P : Program} {w ow bs} {fr : Nat → Prop} {s : FS} (h : Rel w ow bs s.st fr) (tmps : Array Value) (he : ∀ t, RelV w ow bs s.st fr (s.env t) (tmps.getD t undef)) (g : ResultVar → Sem Value) (hg : ∀ t, g (.tmp t) = pure (tmps.getD t undef)) (hg2 : ∀ a t, g (.cell a t) = (do loadVar t (← asAddr (tmps.getD a undef)))) :
    ∀ {l : List ResultVar} {vs : List VV}, resV P s l = some vs → ∃ us, (l.mapM g).run P w = .ok us w ∧ vs.length = us.length ∧ ∀ (k : Nat) (x : VV) (v : Value), vs[k]? = some x → us[k]? = some v → RelV w ow bs s.st fr x v
  | [], vs, hv => by
    simp only [resV, Option.some.injEq] at hv
    subst hv
    exact ⟨[], rfl, rfl, fun k x v hx => by simp at hx⟩
  | x :: l, vs, hv => by
    have cons : ∀ (y : VV) (z : Value) (vs' : List VV), (g x).run P w = .ok z w → RelV w ow bs s.st fr y z → resV P s l = some vs' → vs = y :: vs' →
        ∃ us, ((x :: l).mapM g).run P w = .ok us w ∧ vs.length = us.length ∧ ∀ (k : Nat) (x : VV) (v : Value), vs[k]? = some x → us[k]? = some v → RelV w ow bs s.st fr x v := by
      intro y z vs' h1 h2 h3 h4
      obtain ⟨us, k1, k2, k3⟩ := resV_run h tmps he g hg hg2 h3
      refine ⟨z :: us, by simp only [List.mapM_cons, Sem.run_bind, h1, Result.andThen_ok, k1, Sem.run_pure], by rw [h4]; simp [k2], fun k a b ha hb => ?_⟩
      rw [h4] at ha
      cases k with
      | zero => simp at ha hb; subst ha; subst hb; exact h2
      | succ k => exact k3 k a b (by simpa using ha) (by simpa using hb)
    cases x with
    | tmp t =>
      simp only [resV, Option.map_eq_some_iff] at hv
      obtain ⟨vs', h1, h2⟩ := hv
      exact cons _ _ vs' (by rw [hg]; rfl) (he t) h1 h2.symm
    | cell a t =>
      simp only [resV] at hv
      split at hv
      · rename_i v hl
        rw [Option.map_eq_some_iff] at hv
        obtain ⟨vs', h1, h2⟩ := hv
        obtain ⟨u, q1, q2⟩ := loadVar_run (P := P) h (he a) hl
        exact cons _ _ vs' (by rw [hg2]; exact q1) q2 h1 h2.symm
      · cases hv

theorem holdsC_rel {w ow bs st fr stF} {t : Nat} {c : CT} {v : Value} (h : Rel w ow bs st fr) (hh : HoldsC w ow bs st t c v) : RelV w ow bs stF (fun _ => False) (c.vv t) v := by
  cases c with
  | v y =>
    rcases hh with ⟨h1, h2, h3⟩ | ⟨sz, es, rfl, h2, rfl⟩
    · have : CT.vv t (.v y) = .c y := by
        cases y with
        | list o sz es => cases o <;> first | rfl | simp [isOwn] at h1
        | _ => rfl
      rw [this]; exact .c h3
    · have hr := h.root t _ h2
      obtain ⟨s1, s2⟩ := hr.slice
      exact .al (fun x => x) (fun _ => ⟨by rw [hr.base], s2⟩) s1 (fun R hR => Nat.zero_le _)
  | box xs =>
    obtain ⟨h1, a, l, cap, h2, rfl⟩ := hh
    exact .ptr (fun x => x) (fun _ => ⟨a, l, cap, h2, by simp⟩) ⟨_, rfl, rfl⟩ (fun R hR => Nat.zero_le _)
  | fn f caps =>
    obtain ⟨rfl, rfl⟩ := hh
    exact .fn (caps := []) (vs := #[]) rfl (fun k cs h => by simp at h)
  | ref cs => exact hh.elim

theorem each_of {w ow bs st fr} {xs : List VV} {vs : Array Value} (h : Each (RelV w ow bs st fr) xs vs) : RelE w ow bs st fr (envOf xs) { tmps := vs, defers := [] } := by
  intro t
  simp only [envOf]
  cases ht : xs[t]? with
  | none => rw [List.getD_eq_getElem?_getD, ht]; exact .undef
  | some x => rw [List.getD_eq_getElem?_getD, ht]; exact h.2 t x ht

theorem outV_rel {w ow bs st fr} {l : List VV} {vs : List Value} (hl : l.length = vs.length) (h : ∀ (k : Nat) (x : VV) (v : Value), l[k]? = some x → vs[k]? = some v → RelV w ow bs st fr x v) :
    RelV w ow bs st fr (outL l) (if h : vs.toArray.size = 1 then vs.toArray[0] else .tuple vs.toArray) := by
  match l, vs, hl with
  | [], [], _ => exact .tup rfl (fun k x hx => by simp at hx)
  | [x], [v], _ => exact h 0 x v rfl rfl
  | x :: y :: l, u :: v :: vs, hl =>
    simp only [List.size_toArray, List.length_cons]
    rw [dif_neg (by omega)]
    refine .tup (by simpa using hl) (fun k x' hx => ?_)
    have hk := lt_of_getl hx
    have hk' : k < (u :: v :: vs).length := by omega
    have := h k x' _ hx (List.getElem?_eq_getElem hk')
    rw [Array.getD_eq_getD_getElem?, List.getElem?_toArray, List.getElem?_eq_getElem hk']
    exact this

theorem runs_of_vw {P : Program} {f : FuncId} {fn : Func} {c : Code} {args outs : List RT} {back : List (Nat × Root)} (hf : P.funcs[f]? = some fn) (hb : fn.body = some c) (hn : args.length ≤ fn.ntmps)
    (h : VW P fn.ntmps (rcells args).length c (endV P fn outs back (rcells args).length) ⟨envOf (rvv 0 args), st0.ups (cups 0 (rcells args)), (rcells args).length⟩) : Runs P f args outs back := by
  intro w ow bs vals hrel hvals
  have hlen : (rvv 0 args).length = args.length := by
    have : ∀ (l : List RT) (b : Nat), (rvv b l).length = l.length := by
      intro l
      induction l with
      | nil => intro b; rfl
      | cons x l ih => intro b; simp [rvv, ih]
    exact this _ _
  have hsize : vals.size = args.length := by rw [← hvals.1, hlen]
  refine calls_of_wp hf hb (wp_mono (h w ow bs { tmps := vals ++ Array.replicate (fn.ntmps - vals.size) undef, defers := [] } ⟨hrel, ?_, ?_, rfl, Nat.le_refl _⟩) ?_)
  · intro t
    have h1 := each_of hvals t
    simp only [envOf] at h1 ⊢
    by_cases ht : t < vals.size
    · simp only [Array.getD_eq_getD_getElem?] at h1 ⊢
      rw [Array.getElem?_append_left ht]
      exact h1
    · have : (rvv 0 args)[t]? = none := List.getElem?_eq_none (by omega)
      show RelV _ _ _ _ _ ((rvv 0 args).getD t .undef) _
      rw [List.getD_eq_getElem?_getD, this]
      exact .undef
  · simp; omega
  · rintro e a' w' ⟨s, ow', bs', hq, hs, ha⟩
    have key : retV P fn outs back (rcells args).length s → a'.defers = [] ∧ ∃ v, (results fn a'.tmps).run P w' = .ok v w' ∧ ∃ v' ow'' bs'', Ending.returned v = .returned v' ∧ Steady w ow w' ow'' ∧ Rel w' ow'' bs'' (stOut outs back) (fun _ => False) ∧
        RelV w' ow'' bs'' (stOut outs back) (fun _ => False) (outV outs) v' ∧ ∀ p ∈ back, bs'' (p.1, []) = bs (p.1, []) := by
      rintro ⟨vs, h1, h2, h3, u, h4, h5⟩
      obtain ⟨us, q1, q2, hrs⟩ := resV_run (P := P) ha.rel a'.tmps ha.env (resG a'.tmps) (fun t => rfl) (fun a t => rfl) h1
      obtain ⟨f1, f2⟩ := flatV_rel q2 hrs
      obtain ⟨owB, bsB, stB, g1, g2, g3, g4, g5, g6, g7, g8⟩ := takeCs_sound _ _ _ _ RB ha.rel (fun k _ => by show s.nx ≤ RB + k; omega) (fun _ _ => rfl) (Quiet.refl _ _ _) (Kept.refl _ _) h4 f1 f2
      have hrun : (results fn a'.tmps).run P w' = .ok (if h : us.toArray.size = 1 then us.toArray[0] else .tuple us.toArray) w' := by
        rw [results_eq]
        rw [Array.mapM_eq_mapM_toList]
        simp only [Sem.run_bind, Sem.run_map]
        rw [q1]
        rfl
      have hfin : Rel w' owB bsB (stOut outs back) (fun _ => False) := by
        have r1 : Rel w' owB bsB (stOut outs back) (fun x => s.nx ≤ x ∧ ¬(RB ≤ x ∧ x < RB + (vs.flatMap VV.cells).length) ∧ False) := by
          refine Rel.shrink (Rel.relog (g1.shrink (fr' := fun _ => False) (fun _ h => h.elim)) ?_) (fun r h => h.2.2.elim)
          intro r R hR
          simp only [stOut, St.ups_append] at hR
          rcases backs_get hR with ⟨p, hp, rfl, rfl⟩ | hR
          · obtain ⟨hK, R0, e1, e2, e3, e4⟩ := h5 p hp
            refine ⟨R0, ?_, e2, e3, e4⟩
            rw [g4 _ (by have := ha.old; show ¬ s.nx ≤ p.1; omega)]; exact e1
          · rcases cups_get hR with ⟨k, c, e1, rfl, e2⟩ | hR
            · have hlt : k < (flatV vs us).length := by
                have := lt_of_getl e1; omega
              have hh := g6 k c _ e1 (List.getElem?_eq_getElem hlt)
              rcases e2 with ⟨sz, es, rfl, rfl⟩ | ⟨xs, rfl, rfl⟩
              · rcases hh with ⟨q1, _, _⟩ | ⟨sz', es', q1, q2, _⟩
                · cases q1
                · simp only [T.list.injEq, true_and] at q1
                  obtain ⟨rfl, rfl⟩ := q1
                  exact ⟨_, q2, rfl, rfl, rfl⟩
              · exact ⟨_, hh.1, rfl, rfl, rfl⟩
            · cases hR
        exact r1.shrink (fun _ h => h.elim)
      refine ⟨ha.defers, _, hrun, _, owB, bsB, rfl, ?_, hfin, ?_, fun p hp => ?_⟩
      · exact ⟨fun b hb hlt => by
          have e1 := hs.steady.kept b hb hlt
          have e2 := g2 b e1.2 (Nat.lt_of_lt_of_le hlt hs.steady.size)
          exact ⟨e1.1, e2.2⟩, hs.steady.size, hs.steady.os, hs.steady.tape, hs.steady.output⟩
      · obtain ⟨o1, o2⟩ := out_rel (w := w') (ow := owB) (bs := bsB) (st := stOut outs back) (fr := fun _ => False) (b := RB) h3 q2 hrs (fun k c v hc hv => holdsC_rel g1 (g6 k c v hc hv))
        exact outV_rel o1 o2
      · obtain ⟨hK, _⟩ := h5 p hp
        rw [g3.base p.1 (by have := ha.old; show ¬ s.nx ≤ p.1; omega)]
        exact hs.base p.1 hK
    cases e with
    | normal => exact key hq
    | ret => exact key hq
    | _ => exact hq.elim

end Go.VM
