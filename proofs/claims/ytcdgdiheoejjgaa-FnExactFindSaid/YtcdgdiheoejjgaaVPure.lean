/- The operations that only reckon: what the machine computes is what the frame's values tell. -/
import Derived.Test.YtcdgdiheoejjgaaVOps
import Derived.WalkKit
import Derived.Laws.StructEq
import Derived.MapKept
namespace Go.VM
set_option linter.unusedSimpArgs false
set_option linter.unusedVariables false

def RelE (w : World) (ow : Own) (bs : Base) (st : St) (fr : Nat → Prop) (env : Nat → VV) (a : Act) : Prop := ∀ t, RelV w ow bs st fr (env t) (a.tmps.getD t undef)

/-- An operation's run: a value, memory, and what they stand for. -/
def Does (w : World) (ow : Own) (bs : Base) (st : St) (fr fr' : Nat → Prop) (r : Result Next) (v : VV) (st' : St) : Prop :=
  ∃ val w' ow' bs', (r = .ok (.value val) w' ∨ (r = .ok .skip w' ∧ val = undef)) ∧ Rel w' ow' bs' st' fr' ∧ RelV w' ow' bs' st' fr' v val ∧ Steady w ow w' ow' ∧ Quiet bs st fr bs' st' fr'

theorem Rel.shrink {w ow bs st fr fr'} (h : Rel w ow bs st fr) (hf : ∀ r, fr' r → fr r) : Rel w ow bs st fr' :=
  ⟨h.root, h.box, fun b ℓ hb => ⟨fun x => (h.own b ℓ hb).1 (hf _ x), (h.own b ℓ hb).2⟩, fun r hr => h.free r (hf r hr)⟩

theorem Quiet.shrink {bs st fr fr'} (hf : ∀ r, fr' r → fr r) : Quiet bs st fr bs st fr' :=
  ⟨fun _ _ => rfl, fun _ _ _ _ _ _ h => ⟨h, rfl⟩, fun _ R' _ h => ⟨R', h, Nat.le_refl _⟩, hf⟩

theorem Does.pure {w ow bs st} {fr fr' : Nat → Prop} {r : Result Next} {v : VV} {val : Value} (hr : Rel w ow bs st fr) (hf : ∀ r, fr' r → fr r) (h : r = .ok (.value val) w) (hv : RelV w ow bs st fr v val) :
    Does w ow bs st fr fr' r v st :=
  ⟨val, w, ow, bs, .inl h, hr.shrink hf, hv.mono (Kept.refl _ _) (Quiet.shrink hf), Steady.refl _ _, Quiet.shrink hf⟩

theorem lit_rel {w ow bs st fr} (v : Value) : RelV w ow bs st fr (lit v) v := by
  cases v <;> simp only [lit] <;> first | exact .undef | exact .c .int | exact .c .bool | exact .c .str

theorem ev_rel {P : Program} {w ow bs st fr} {env : Nat → VV} {a : Act} (he : RelE w ow bs st fr env a) (t : TypeId) (x : Operand) : RelV w ow bs st fr (ev P env t x) (a.eval x) := by
  cases x with
  | tmp i => exact he i
  | const v =>
    simp only [Act.eval]
    cases v with
    | slice b l c =>
      cases b with
      | none =>
        by_cases h : l = 0 ∧ c = 0
        · obtain ⟨rfl, rfl⟩ := h
          simp only [ev]
          split
          · exact .nils
          · exact .undef
        · have : ev P env t (.const (.slice none l c)) = .undef := by
            cases l with
            | zero =>
              cases c with
              | zero => exact absurd ⟨rfl, rfl⟩ h
              | succ c => simp [ev, lit]
            | succ l => simp [ev, lit]
          rw [this]; exact .undef
      | some b => simp only [ev, lit]; exact .undef
    | _ => simp only [ev]; exact lit_rel _
  | global g => exact .undef
  | func f => exact .fn (caps := []) (vs := #[]) rfl (fun k cs h => by simp at h)

/-- What a plain scalar stands for. -/
theorem rel_int {w ow bs st fr k n v} (h : RelV w ow bs st fr (.c (.int k n)) v) : v = .int k n := by
  cases h with | c h => cases h; rfl
theorem rel_bool {w ow bs st fr b v} (h : RelV w ow bs st fr (.c (.bool b)) v) : v = .bool b := by
  cases h with | c h => cases h; rfl
theorem rel_str {w ow bs st fr s v} (h : RelV w ow bs st fr (.c (.str s)) v) : v = .string s := by
  cases h with | c h => cases h; rfl

theorem info_of_cells {P : Program} {t : TypeId} (h : P.cellsOf t ≠ 0) : ∃ i, P.info? t = some i := by
  unfold Program.cellsOf at h
  cases hi : P.info? t with
  | none => rw [hi] at h; simp at h
  | some i => exact ⟨i, rfl⟩
theorem elemT_some {P : Program} {t e : TypeId} (h : elemT P t = some e) : P.underlying t = some (.slice e) ∧ P.cellsOf e ≠ 0 := by
  simp only [elemT] at h
  split at h
  · split at h
    · cases h
    · simp only [Option.some.injEq] at h; subst h; exact ⟨by assumption, by assumption⟩
  · cases h
theorem strT_true {P : Program} {t : TypeId} (h : strT P t = true) : P.underlying t = some .string := by
  simp only [strT] at h
  split at h <;> simp_all
theorem boolT_true {P : Program} {t : TypeId} (h : boolT P t = true) : P.underlying t = some .bool := by
  simp only [boolT] at h
  split at h <;> simp_all
theorem intT_some {P : Program} {t : TypeId} {k : IntKind} (h : intT P t = some k) : P.underlying t = some (.int k) := by
  simp only [intT] at h
  split at h <;> simp_all
theorem fieldT_some {P : Program} {t f off ft} (h : fieldT P t f = some (off, ft)) : ∃ fs fd, P.underlying t = some (.struct fs) ∧ fs[f]? = some fd ∧ fd.offset = off ∧ fd.type = ft ∧ P.cellsOf ft ≠ 0 := by
  simp only [fieldT] at h
  split at h
  · rename_i fs hu
    split at h
    · rename_i fd hfd
      split at h
      · cases h
      · simp only [Option.some.injEq, Prod.mk.injEq] at h
        exact ⟨fs, fd, hu, hfd, h.1, h.2, by rw [← h.2]; assumption⟩
    · cases h
  · cases h
theorem isAgg_true {P : Program} {t : TypeId} (h : aggT P t = some true) (w : World) : (isAgg t).run P w = .ok true w ∧ P.cellsOf t ≠ 0 := by
  simp only [aggT] at h
  split at h
  · rename_i fs hu
    split at h
    · cases h
    · exact ⟨by simp [isAgg, run_underlying hu], by assumption⟩
  · cases h
  · cases h
  · cases h
theorem isAgg_false {P : Program} {t : TypeId} (h : aggT P t = some false) (w : World) : (isAgg t).run P w = .ok false w := by
  simp only [aggT] at h
  split at h
  · split at h <;> cases h
  · cases h
  · rename_i d h1 h2 hu
    simp only [isAgg, Sem.run_bind, run_underlying hu, Result.andThen_ok]
    cases d <;> first | rfl | exact absurd rfl (h1 _) | exact absurd rfl (h2 _ _)
  · cases h
theorem sizeOf_run {P : Program} {t : TypeId} (h : P.cellsOf t ≠ 0) (w : World) : (sizeOf t).run P w = .ok (P.cellsOf t) w := by
  obtain ⟨i, hi⟩ := info_of_cells h
  exact run_sizeOf w hi

theorem beq_bytes (a b : ByteArray) : (a == b) = decide (a = b) := by
  rw [Bool.eq_iff_iff, MapKept.bytes_beq]; simp

theorem toList_beq (a b : ByteArray) : (a.toList == b.toList) = decide (a = b) := by
  rw [← beq_toListBytes, beq_bytes]

/-! ### reckoning -/

theorem does_of {w ow bs st} {fr fr' : Nat → Prop} {v : VV} {val : Value} {s : Sem Value} {P : Program} (hr : Rel w ow bs st fr) (hf : ∀ r, fr' r → fr r) (h : s.run P w = .ok val w) (hv : RelV w ow bs st fr v val) :
    Does w ow bs st fr fr' ((do pure (Next.value (← s)) : Sem Next).run P w) v st :=
  Does.pure hr hf (by simp [h]) hv

theorem part_scalar {P : Program} (w : World) {t : TypeId} {d : TypeDesc} (hu : P.underlying t = some d) (hd : ∀ fs, d ≠ .struct fs) (hd2 : ∀ n e, d ≠ .array n e) {vs : Array Value} {k : Nat} {v : Value} (hk : k < vs.size) (hv : vs.getD k undef = v) :
    (part t vs k).run P w = .ok v w := by
  have h1 : (isAgg t).run P w = .ok false w := by
    simp only [isAgg, Sem.run_bind, run_underlying hu, Result.andThen_ok]
    cases d <;> first | rfl | exact absurd rfl (hd _) | exact absurd rfl (hd2 _ _)
  have h2 : vs[k]? = some v := by
    rw [Array.getD_eq_getD_getElem?, Array.getElem?_eq_getElem hk] at hv
    rw [Array.getElem?_eq_getElem hk]; simpa using hv
  simp [part, h1, h2]

theorem scal_run {P : Program} (w : World) {ow bs st fr} {t : TypeId} {d : TypeDesc} {ds : List TypeDesc} {x y : VV} {xs ys : List VV} {vx vy : Value} {b : Bool} (hu : P.underlying t = some d)
    (hx : fitD (d :: ds) (x :: xs) = true) (hy : fitD (d :: ds) (y :: ys) = true) (rx : RelV w ow bs st fr x vx) (ry : RelV w ow bs st fr y vy) (hb : scalEq x y = some b) (n : Nat) :
    (Op.equalIn (n + 1) t vx vy).run P w = .ok b w ∧ (∀ fs, d ≠ .struct fs) ∧ (∀ n e, d ≠ .array n e) := by
  cases d <;> try (simp [fitD] at hx; done)
  case bool =>
    cases x <;> try (simp [fitD] at hx; done)
    cases y <;> try (simp [fitD] at hy; done)
    rename_i x y
    cases x <;> try (simp [fitD] at hx; done)
    cases y <;> try (simp [fitD] at hy; done)
    simp only [scalEq, Option.some.injEq] at hb
    subst hb
    rw [rel_bool rx, rel_bool ry]
    exact ⟨run_equalIn_bool' w n t _ _ hu, by simp, by simp⟩
  case int k =>
    cases x <;> try (simp [fitD] at hx; done)
    cases y <;> try (simp [fitD] at hy; done)
    rename_i x y
    cases x <;> try (simp [fitD] at hx; done)
    cases y <;> try (simp [fitD] at hy; done)
    rename_i k1 n1 k2 n2
    simp only [fitD, Bool.and_eq_true, beq_iff_eq] at hx hy
    obtain ⟨rfl, _⟩ := hx
    obtain ⟨rfl, _⟩ := hy
    simp only [scalEq, if_true, Option.some.injEq] at hb
    subst hb
    rw [rel_int rx, rel_int ry]
    refine ⟨?_, by simp, by simp⟩
    rw [run_equalIn_int w n t k k _ _ hu]
    congr 1
  case string =>
    cases x <;> try (simp [fitD] at hx; done)
    cases y <;> try (simp [fitD] at hy; done)
    rename_i x y
    cases x <;> try (simp [fitD] at hx; done)
    cases y <;> try (simp [fitD] at hy; done)
    simp only [scalEq, Option.some.injEq] at hb
    subst hb
    rw [rel_str rx, rel_str ry]
    refine ⟨?_, by simp, by simp⟩
    rw [run_equalIn_string w n t _ _ hu, toList_beq]

theorem fitD_tail {d : TypeDesc} {ds : List TypeDesc} {x : VV} {xs : List VV} (h : fitD (d :: ds) (x :: xs) = true) : fitD ds xs = true := by
  cases d <;> try (simp [fitD] at h; done)
  all_goals
    cases x <;> try (simp [fitD] at h; done)
    rename_i x
    cases x <;> try (simp [fitD] at h; done)
    simp only [fitD, Bool.and_eq_true] at h
    first | exact h | exact h.2

theorem eqFields_run {P : Program} (w : World) {ow bs st fr} : ∀ (fs : List Field) (n : Nat) (ds : List TypeDesc) (xs ys : List VV) (vx vy : Array Value) (b : Bool),
    flatF P n fs = some ds → fitD ds xs = true → fitD ds ys = true → rowEq xs ys = some b →
    (∀ (k : Nat) (x : VV), xs[k]? = some x → RelV w ow bs st fr x (vx.getD (n + k) undef)) → (∀ (k : Nat) (x : VV), ys[k]? = some x → RelV w ow bs st fr x (vy.getD (n + k) undef)) →
    n + xs.length = vx.size → n + ys.length = vy.size →
    (Op.eqFields 9999 vx vy fs).run P w = .ok b w
  | [], n, ds, xs, ys, vx, vy, b, hm, hx, hy, hb, _, _, _, _ => by
    simp only [flatF, Option.some.injEq] at hm
    subst hm
    cases xs with
    | nil =>
      cases ys with
      | nil => simp only [rowEq, Option.some.injEq] at hb; subst hb; simp [Op.eqFields]
      | cons y ys => simp [fitD] at hy
    | cons x xs => simp [fitD] at hx
  | f :: fs, n, ds, xs, ys, vx, vy, b, hm, hx, hy, hb, rx, ry, lx, ly => by
    simp only [flatF] at hm
    split at hm
    · rename_i hc
      obtain ⟨h1, h2⟩ := hc
      obtain ⟨d, ds', hu, rfl, hm'⟩ : ∃ d ds', P.underlying f.type = some d ∧ ds = d :: ds' ∧ flatF P (n + 1) fs = some ds' := by
        split at hm
        all_goals first
          | (rw [Option.map_eq_some_iff] at hm; obtain ⟨ds', e1, e2⟩ := hm; exact ⟨_, ds', by assumption, e2.symm, e1⟩)
          | cases hm
      cases xs with
      | nil => cases d <;> simp [fitD] at hx
      | cons x xs =>
        cases ys with
        | nil => cases d <;> simp [fitD] at hy
        | cons y ys =>
          simp only [rowEq] at hb
          cases hs : scalEq x y with
          | none => rw [hs] at hb; simp at hb
          | some b1 =>
            cases hr : rowEq xs ys with
            | none => rw [hs, hr] at hb; simp at hb
            | some b2 =>
              rw [hs, hr] at hb
              simp only [Option.some.injEq] at hb
              have r1 := rx 0 x (by simp)
              have r2 := ry 0 y (by simp)
              simp only [Nat.add_zero] at r1 r2
              obtain ⟨e1, e2, e3⟩ := scal_run w hu hx hy r1 r2 hs 9998
              have ih := eqFields_run w fs (n + 1) ds' xs ys vx vy b2 hm' (fitD_tail hx) (fitD_tail hy) hr
                (fun k x hk => by have := rx (k + 1) x (by simpa using hk); rwa [show n + 1 + k = n + (k + 1) from by omega])
                (fun k y hk => by have := ry (k + 1) y (by simpa using hk); rwa [show n + 1 + k = n + (k + 1) from by omega])
                (by simp only [List.length_cons] at lx; omega) (by simp only [List.length_cons] at ly; omega)
              simp only [Op.eqFields, h1, ne_eq, not_false_eq_true, if_true, Sem.run_bind, h2]
              simp only [List.length_cons] at lx ly
              rw [part_scalar w hu e2 e3 (by omega) rfl, Result.andThen_ok, part_scalar w hu e2 e3 (by omega) rfl, Result.andThen_ok, e1, Result.andThen_ok]
              subst hb
              cases b1
              · simp
              · simp only [Bool.not_true, Bool.false_eq_true, if_false, Bool.true_and]; exact ih
    · cases hm

theorem binV_run {P : Program} {w ow bs st fr} {op : BinOp} {t : TypeId} {x y z : VV} {vx vy : Value} {ox oy : Operand} (rx : RelV w ow bs st fr x vx) (ry : RelV w ow bs st fr y vy) (h : binV P op t x y = some z) :
    ∃ v, (do eqGuard op t ox oy vx vy; binOp op t vx vy : Sem Value).run P w = .ok v w ∧ RelV w ow bs st fr z v := by
  unfold binV at h
  split at h
  · rename_i k a k' b
    rw [rel_int rx, rel_int ry]
    have hg : (eqGuard op t ox oy (.int k a) (.int k' b)).run P w = .ok () w := by cases op <;> simp [eqGuard]
    simp only [Sem.run_bind, hg, Result.andThen_ok]
    by_cases hk : k = k'
    · subst hk
      cases op <;> simp only [ne_eq, not_true_eq_false, if_false] at h <;> (try split at h) <;> first
        | (cases h; done)
        | (simp only [Option.some.injEq] at h; subst h; refine ⟨_, ?_, .c (by first | exact .int | exact .bool)⟩
           simp_all [binOp, Op.shift, Op.intArith, Op.intDiv, Op.intBits, Op.intCmp]; try first | rfl | (intro h'; omega))
    · cases op <;> simp only [ne_eq, hk, not_false_eq_true, if_true] at h <;> (try split at h) <;> first
        | (cases h; done)
        | (simp only [Option.some.injEq] at h; subst h; refine ⟨_, ?_, .c (by first | exact .int | exact .bool)⟩
           simp_all [binOp, Op.shift]; try first | rfl | (intro h'; omega))
  · rename_i a b
    rw [rel_str rx, rel_str ry]
    have hg : (eqGuard op t ox oy (.string a) (.string b)).run P w = .ok () w := by cases op <;> simp [eqGuard]
    simp only [Sem.run_bind, hg, Result.andThen_ok]
    cases op <;> simp only [] at h <;> (try split at h) <;> first
        | (cases h; done)
        | (simp only [Option.some.injEq] at h; subst h; refine ⟨_, ?_, .c (by first | exact .str | exact .bool)⟩
           simp only [binOp, Op.stringOp, toList_beq]
           first
             | rfl
             | (rw [if_neg (by rw [show IntKind.i64.max = 9223372036854775807 from rfl]; omega)]; rfl))
  · rename_i a b
    rw [rel_bool rx, rel_bool ry]
    have hg : (eqGuard op t ox oy (.bool a) (.bool b)).run P w = .ok () w := by cases op <;> simp [eqGuard]
    simp only [Sem.run_bind, hg, Result.andThen_ok]
    split at h
    · rename_i hu
      have hu := boolT_true hu
      cases op <;> (try simp only [] at h) <;> first
        | (cases h; done)
        | (simp only [Option.some.injEq] at h; subst h; refine ⟨_, ?_, .c .bool⟩
           simp [binOp, Op.equal, Op.maxDepth, run_equalIn_bool' w _ t _ _ hu])
    · cases h
  · rename_i xs ys
    cases rx with
    | @agg _ vx lx rx =>
      cases ry with
      | @agg _ vy ly ry =>
        split at h
        · rename_i ds hd
          split at h
          · rename_i hfit
            simp only [Bool.and_eq_true] at hfit
            simp only [flatT] at hd
            split at hd
            · rename_i fs hu
              split at hd
              · cases hd
              · rename_i hs
                simp only [Bool.or_eq_true, not_or, Bool.not_eq_true] at hs
                have hf : P.fieldsOf t = fs := by simp [Program.fieldsOf, hu]
                have hg : (eqGuard op t ox oy (.agg vx) (.agg vy)).run P w = .ok () w := run_eqGuard_agg w op t ox oy vx vy hs.2
                have key : ∀ b, rowEq xs ys = some b → (Op.equalIn 10000 t (.agg vx) (.agg vy)).run P w = .ok b w := by
                  intro b hb
                  rw [run_equalIn_struct w 9999 t vx vy (by rw [hf]; exact hu) hs.1, hf]
                  exact eqFields_run w fs.toList 0 ds xs ys vx vy b hd hfit.1 hfit.2 hb (by simpa using rx) (by simpa using ry) (by omega) (by omega)
                simp only [Sem.run_bind, hg, Result.andThen_ok]
                cases op <;> (try simp only [] at h) <;> first
                  | (cases h; done)
                  | (rw [Option.map_eq_some_iff] at h; obtain ⟨b, hb, rfl⟩ := h; refine ⟨_, ?_, .c .bool⟩
                     first
                       | (rw [run_eql_struct, key b hb]; rfl)
                       | (rw [run_neq_struct, key b hb]; rfl))
            · cases hd
          · cases h
        · cases h
  · cases h

end Go.VM
