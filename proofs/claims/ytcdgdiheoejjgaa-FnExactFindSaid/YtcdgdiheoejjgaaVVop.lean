/- Every operation of a frame, in one law. -/
import Derived.Test.YtcdgdiheoejjgaaVSound
namespace Go.VM
set_option linter.unusedSimpArgs false
set_option linter.unusedVariables false

theorem unV_run {P : Program} {w ow bs st fr} {op : UnOp} {x z : VV} {v : Value} (rx : RelV w ow bs st fr x v) (h : unV op x = some z) : ∃ u, (Op.unary op v).run P w = .ok u w ∧ RelV w ow bs st fr z u := by
  unfold unV at h
  split at h
  · rw [rel_bool rx]
    cases op <;> simp only [Option.some.injEq, reduceCtorEq] at h
    subst h
    exact ⟨_, rfl, .c .bool⟩
  · rw [rel_int rx]
    cases op <;> simp only [Option.some.injEq, reduceCtorEq] at h
    subst h
    exact ⟨_, rfl, .c .int⟩
  · cases h

theorem part_run {P : Program} {w ow bs st fr} {t : TypeId} {cs : List VV} {vs : Array Value} {off : Nat} {z : VV} (hl : cs.length = vs.size) (hr : ∀ (k : Nat) (x : VV), cs[k]? = some x → RelV w ow bs st fr x (vs.getD k undef)) (h : partV P t cs off = some z) :
    ∃ u, (part t vs off).run P w = .ok u w ∧ RelV w ow bs st fr z u := by
  unfold partV at h
  split at h
  · rename_i ha
    obtain ⟨h1, h2⟩ := isAgg_true ha w
    split at h
    · rename_i hle
      simp only [Option.some.injEq] at h
      subst h
      refine ⟨.agg (vs.extract off (off + P.cellsOf t)), by simp [part, h1, sizeOf_run h2], .agg (by simp; omega) (fun k x hx => ?_)⟩
      rw [List.getElem?_take] at hx
      split at hx
      · rename_i hk
        rw [List.getElem?_drop] at hx
        have := hr _ _ hx
        rw [Array.getD_eq_getD_getElem?] at this ⊢
        rw [Array.getElem?_extract_of_lt (by omega), ← Array.getElem?_eq_getElem (by omega)]
        exact this
      · cases hx
    · cases h
  · rename_i ha
    have h1 := isAgg_false ha w
    have hk := lt_of_getl h
    have := hr _ _ h
    refine ⟨vs[off], by simp [part, h1, Array.getElem?_eq_getElem (show off < vs.size by omega)], ?_⟩
    rw [Array.getD_eq_getD_getElem?, Array.getElem?_eq_getElem (show off < vs.size by omega)] at this
    simpa using this
  · cases h

theorem len_run {P : Program} {w ow bs st fr} {t ty : TypeId} {x : VV} {v : Value} {n : Nat} (rx : RelV w ow bs st fr x v) (ht : lenOk P t x = true) (h : lenV x = some n) :
    (Builtin.len_ #[t] ty #[v]).run P w = .ok (.int .i64 n) w := by
  rcases slice_len rx h with ⟨s, rfl, rfl, rfl⟩ | ⟨a, cap, rfl, _⟩
  · have hu := strT_true ht
    simp [Builtin.len_, run_underlying hu, goInt]
  · have hn : (elemT P t).isSome = true := by
      unfold lenOk at ht
      split at ht
      · rename_i s
        cases rx with | c h => cases h
      · exact ht
    obtain ⟨e, he⟩ := Option.isSome_iff_exists.1 hn
    have hu := (elemT_some he).1
    simp [Builtin.len_, run_underlying hu, goInt]

theorem vop_sound {P : Program} {w ow bs st} {fr : Nat → Prop} {fid : Nat} {env : Nat → VV} {a : Act} {o : Oper} {eff : Eff} (h : Rel w ow bs st fr) (he : RelE w ow bs st fr env a) (hroom : Room fr fid) (hv : vop P fid o env st = some eff) :
    Does w ow bs st fr (fun y => fr y ∧ ¬ Mine fid y) ((execOp a.eval o).run P w) eff.v (st.ups eff.ups) := by
  have R : ∀ t x, RelV w ow bs st fr (ev P env t x) (a.eval x) := fun t x => ev_rel he t x
  obtain ⟨dst, op, type, pos, after, guard⟩ := o
  unfold vop at hv
  simp only at hv
  split at hv
  · simp only [Option.some.injEq] at hv
    subst hv
    exact Does.pure h minus_sub (by simp [execOp]) (R _ _)
  · simp only [Option.some.injEq] at hv
    subst hv
    exact Does.pure h minus_sub (by simp [execOp]) (R _ _)
  · -- pick
    rename_i c x y
    split at hv
    · rename_i t ht
      simp only [Option.some.injEq] at hv
      subst hv
      have hc := R 0 c
      rw [ht] at hc
      refine Does.pure h minus_sub (val := if t then a.eval x else a.eval y) (by cases t <;> simp [execOp, rel_bool hc, asBool]) ?_
      cases t
      · exact R _ _
      · exact R _ _
    · cases hv
  · -- nilCheck
    rename_i x
    have hx := R 0 x
    have key : ∀ z, ev P env 0 x = z → (∃ r p m i j, z = .ptr r p m i j) ∨ (∃ cs, z = .rop cs) ∨ (∃ f cs, z = .fn f cs) → ((execOp a.eval ⟨dst, .nilCheck x, type, pos, after, guard⟩).run P w) = .ok (.value (a.eval x)) w := by
      intro z hz hk
      rw [hz] at hx
      generalize hu : a.eval x = u at hx ⊢
      rcases hk with ⟨r, p, m, i, j, rfl⟩ | ⟨cs, rfl⟩ | ⟨f, cs, rfl⟩
      · cases hx with | ptr hf hh hv hm => obtain ⟨b, rfl, _⟩ := hv; simp [execOp, hu]
      · cases hx with | rop => simp [execOp, hu]
      · cases hx with | fn => simp [execOp, hu]
    split at hv
    · rename_i ht
      simp only [Option.some.injEq] at hv
      subst hv
      exact Does.pure h minus_sub (key _ ht (.inl ⟨_, _, _, _, _, rfl⟩)) (by rw [ht] at hx; exact hx)
    · rename_i ht
      simp only [Option.some.injEq] at hv
      subst hv
      exact Does.pure h minus_sub (key _ ht (.inr (.inl ⟨_, rfl⟩))) (by rw [ht] at hx; exact hx)
    · rename_i ht
      simp only [Option.some.injEq] at hv
      subst hv
      exact Does.pure h minus_sub (key _ ht (.inr (.inr ⟨_, _, rfl⟩))) (by rw [ht] at hx; exact hx)
    · cases hv
  · -- alloc
    split at hv
    · rename_i z hz
      simp only [Option.some.injEq] at hv
      subst hv
      exact alloc_sound h hroom hz
    · cases hv
  · -- box
    rename_i e x
    split at hv
    · rename_i ys u hys
      split at hv
      · simp only [Option.some.injEq] at hv
        subst hv
        exact box_sound h hroom (R e x) hys (by assumption)
      · cases hv
    · cases hv
  · -- build
    rename_i t parts
    split at hv
    · rename_i z pl hz hpl
      rw [Option.map_eq_some_iff] at hv
      obtain ⟨cs, hf, rfl⟩ := hv
      obtain ⟨v, hv1, hv2⟩ := build_sound he hz hpl hf
      exact does_of h minus_sub hv1 hv2
    · cases hv
  · -- buildSlice
    rename_i t len parts
    split at hv
    · rename_i e ht
      split at hv
      · rename_i z hz
        split at hv
        · cases hv
        · rename_i hmax
          split at hv
          · rename_i cs hf
            split at hv
            · rename_i ys u hx
              simp only [Option.some.injEq] at hv
              subst hv
              exact buildSlice_sound h hroom he ht hz (by omega) hf hx
            · cases hv
          · cases hv
      · cases hv
    · cases hv
  · -- load
    rename_i t x
    rw [Option.map_eq_some_iff] at hv
    obtain ⟨z, hz, rfl⟩ := hv
    obtain ⟨u, h1, h2⟩ := loadV_run h (R 0 x) hz
    exact does_of h minus_sub h1 h2
  · -- store
    rename_i t x y
    split at hv
    · rename_i r p m i j hx
      split at hv
      · rename_i hc
        obtain ⟨c1, c2, c3⟩ := hc
        rw [Option.map_eq_some_iff] at hv
        obtain ⟨u, hu, rfl⟩ := hv
        have hp := R 0 x
        rw [hx] at hp
        exact store_op_sound h hroom hp (R t y) c1 c2 (by omega) hu
      · cases hv
    · cases hv
  · -- binOp
    rename_i op t x y yt
    rw [Option.map_eq_some_iff] at hv
    obtain ⟨z, hz, rfl⟩ := hv
    obtain ⟨u, h1, h2⟩ := binV_run (ox := x) (oy := y) (R t x) (R t y) hz
    exact does_of h minus_sub h1 h2
  · -- unOp
    rename_i op xt x
    rw [Option.map_eq_some_iff] at hv
    obtain ⟨z, hz, rfl⟩ := hv
    obtain ⟨u, h1, h2⟩ := unV_run (R 0 x) hz
    exact does_of h minus_sub h1 h2
  · -- convert
    rename_i s t x
    split at hv
    · cases hv
    · rename_i hs
      have hs : ∃ d, P.underlying s = some d := by
        simp only [hasT] at hs
        cases hu : P.underlying s with
        | none => rw [hu] at hs; simp at hs
        | some d => exact ⟨d, rfl⟩
      obtain ⟨sd, hsd⟩ := hs
      have hx := R s x
      split at hv
      · rename_i k0 n hn
        rw [hn] at hx
        split at hv
        · rename_i k hk
          simp only [Option.some.injEq] at hv
          subst hv
          refine does_of h minus_sub (val := .int k (k.wrap n)) ?_ (.c .int)
          rw [rel_int hx]
          simp [convert, run_underlying hsd, run_underlying (intT_some hk), Conv.intToInt]
        · cases hv
      · rename_i b hb
        rw [hb] at hx
        split at hv
        · rename_i hst
          simp only [Option.some.injEq] at hv
          subst hv
          refine does_of h minus_sub (val := .string b) ?_ (.c .str)
          rw [rel_str hx]
          cases sd <;> simp [convert, run_underlying hsd, run_underlying (strT_true hst)]
        · split at hv
          · rename_i e hel
            split at hv
            · rename_i hc
              simp only [Option.some.injEq] at hv
              subst hv
              have := strBytes_sound (P := P) (e := e) (s := b) h hroom
              have hrun : (convert s t (a.eval x)).run P w = (Conv.stringToBytes e b).run P w := by
                rw [rel_str hx]
                cases sd <;> simp [convert, run_underlying hsd, run_underlying (elemT_some hel).1, run_underlying (intT_some hc.1)]
              simpa only [execOp, Sem.run_bind, hrun] using this
            · cases hv
          · cases hv
      · split at hv
        · rename_i hst
          split at hv
          · rename_i e hel
            split at hv
            · rename_i hu8
              split at hv
              · rename_i rows hrows
                rw [Option.map_eq_some_iff] at hv
                obtain ⟨b, hb, rfl⟩ := hv
                have := bytesStr_run (P := P) h hx hrows hb
                refine does_of h minus_sub (val := .string b) ?_ (.c .str)
                obtain ⟨a0, cap0, hval, _⟩ := rows_rel h hx hrows
                rw [hval] at this ⊢
                have e1 := elemT_some hel
                simp only [convert, Sem.run_bind, run_underlying e1.1, run_underlying (strT_true hst), Result.andThen_ok, run_underlying (intT_some hu8)]
                exact this
              · cases hv
            · cases hv
          · cases hv
        · cases hv
  · -- makeSlice
    rename_i t l c
    split at hv
    · rename_i e q1 n q2 k ht hl hc
      split at hv
      · rename_i z hz
        split at hv
        · rename_i hcond
          simp only [Option.some.injEq] at hv
          subst hv
          have h1 := R 0 l
          have h2 := R 0 c
          rw [hl] at h1
          rw [hc] at h2
          have := makeSlice_sound (P := P) (q1 := q1) (q2 := q2) h hroom ht hz hcond.1 hcond.2.1 hcond.2.2
          simpa only [execOp, rel_int h1, rel_int h2] using this
        · cases hv
      · cases hv
    · cases hv
  · -- slice
    rename_i t x lo hi
    rw [Option.map_eq_some_iff] at hv
    obtain ⟨z, hz, rfl⟩ := hv
    obtain ⟨u, h1, h2⟩ := slice_run (P := P) (R t x) (vlo := lo.map a.eval) (vhi := hi.map a.eval)
      (fun y hy => by cases lo with | none => cases hy | some l => simp only [Option.map_some, Option.some.injEq] at hy; subst hy; exact ⟨_, rfl, R 0 l⟩)
      (fun hy => by cases lo with | none => rfl | some l => cases hy)
      (fun y hy => by cases hi with | none => cases hy | some l => simp only [Option.map_some, Option.some.injEq] at hy; subst hy; exact ⟨_, rfl, R 0 l⟩)
      (fun hy => by cases hi with | none => rfl | some l => cases hy) hz
    exact does_of h minus_sub h1 h2
  · -- fieldAddr
    rename_i t x f
    have hx := R 0 x
    split at hv
    · rename_i off ft r p m i j hf hr
      simp only [Option.some.injEq] at hv
      subst hv
      rw [hr] at hx
      obtain ⟨u, h1, h2⟩ := fieldAddr_run hf hx (.inl ⟨_, _, _, _, _, rfl, rfl⟩)
      exact does_of h minus_sub h1 h2
    · rename_i off ft cs hf hr
      split at hv
      · cases hv
      · rename_i hoff
        simp only [Option.some.injEq] at hv
        subst hv
        rw [hr] at hx
        obtain ⟨u, h1, h2⟩ := fieldAddr_run hf hx (.inr ⟨_, rfl, by omega, rfl⟩)
        exact does_of h minus_sub h1 h2
    · cases hv
  · -- field
    rename_i t x f
    have hx := R t x
    split at hv
    · rename_i off ft cs hf hr
      rw [Option.map_eq_some_iff] at hv
      obtain ⟨z, hz, rfl⟩ := hv
      rw [hr] at hx
      generalize hu : a.eval x = u at hx
      cases hx with
      | @agg _ vs hl hh =>
        obtain ⟨fs, fd, e1, e2, e3, e4, e5⟩ := fieldT_some hf
        obtain ⟨u, h1, h2⟩ := part_run (P := P) hl hh hz
        refine does_of h minus_sub (val := u) ?_ h2
        simp [Instr.field, run_underlying e1, e2, asAgg, hu, e3, e4, h1]
    · cases hv
  · -- indexAddr
    rename_i t x i
    rw [Option.map_eq_some_iff] at hv
    obtain ⟨z, hz, rfl⟩ := hv
    obtain ⟨u, h1, h2⟩ := indexAddr_run (P := P) (R t x) (R 0 i) hz
    exact does_of h minus_sub h1 h2
  · -- index
    rename_i t x i
    have hx := R t x
    have hi := R 0 i
    split at hv
    · rename_i s k n hs hn
      split at hv
      · rename_i hc
        simp only [Option.some.injEq] at hv
        subst hv
        rw [hs] at hx
        rw [hn] at hi
        refine does_of h minus_sub (val := .int .u8 (s.data.toList.getD n.toNat 0).toNat) ?_ (.c .int)
        rw [rel_str hx, rel_int hi]
        have hlt : n.toNat < s.size := by omega
        have hb : s[n.toNat]? = some (s.data.toList.getD n.toNat 0) := by
          rw [getElem?_pos s n.toNat hlt]
          have : n.toNat < s.data.toList.length := by simpa using hlt
          have h2 : n.toNat < s.data.size := by simpa using hlt
          rw [List.getD_eq_getElem?_getD, List.getElem?_eq_getElem this]
          simp only [Array.getElem_toList, Option.getD_some]
          rfl
        simp [Instr.index, asIntOf, run_underlying (strT_true hc.1), hc.2.1, hb]
      · cases hv
    · cases hv
  · -- extract
    rename_i x i
    have hx := R 0 x
    split at hv
    · rename_i vs hs
      rw [Option.map_eq_some_iff] at hv
      obtain ⟨z, hz, rfl⟩ := hv
      rw [hs] at hx
      generalize hu : a.eval x = u at hx
      cases hx with
      | @tup _ us hl hh =>
        have hlt := lt_of_getl hz
        have := hh i z hz
        rw [Array.getD_eq_getD_getElem?, Array.getElem?_eq_getElem (show i < us.size by omega)] at this
        refine does_of h minus_sub (val := us[i]) ?_ (by simpa using this)
        simp [hu, Instr.extract, Array.getElem?_eq_getElem (show i < us.size by omega)]
    · cases hv
  · -- call
    rename_i c
    obtain ⟨callee, args, argTypes⟩ := c
    unfold builtinV at hv
    simp only at hv
    split at hv
    · rename_i b
      split at hv
      · rename_i x t hargs htys
        have ha : args = #[x] := by cases args; simp_all
        have ht : argTypes = #[t] := by cases argTypes; simp_all
        subst ha ht
        split at hv
        · rename_i hty
          rw [Option.map_eq_some_iff] at hv
          obtain ⟨n, hn, rfl⟩ := hv
          have hx := len_run (ty := type) (R t x) hty hn
          refine does_of h minus_sub (val := .int .i64 n) ?_ (.c .int)
          simp [resolve, invoke, builtin, hx]
        · cases hv
      · rename_i x y xT yT hargs htys
        have ha : args = #[x, y] := by cases args; simp_all
        have ht : argTypes = #[xT, yT] := by cases argTypes; simp_all
        subst ha ht
        have := append_op_sound (P := P) (ty := type) h hroom (R xT x) (R yT y) hv
        simpa [execOp, resolve, invoke, builtin] using this
      · rename_i x y hargs
        have ha : args = #[x, y] := by cases args; simp_all
        subst ha
        have hx := R 0 x
        have hy := R 0 y
        split at hv
        · rename_i n m hn hm
          simp only [Option.some.injEq] at hv
          subst hv
          rw [hn] at hx
          rw [hm] at hy
          refine does_of h minus_sub (val := .int .i64 (if m > n then m else n)) ?_ (.c .int)
          simp [resolve, invoke, builtin, rel_int hx, rel_int hy, Builtin.max_, Builtin.max2]
        · cases hv
      · rename_i x y hargs
        have ha : args = #[x, y] := by cases args; simp_all
        subst ha
        have hx := R 0 x
        have hy := R 0 y
        split at hv
        · rename_i n m hn hm
          simp only [Option.some.injEq] at hv
          subst hv
          rw [hn] at hx
          rw [hm] at hy
          refine does_of h minus_sub (val := .int .i64 (if m < n then m else n)) ?_ (.c .int)
          simp [resolve, invoke, builtin, rel_int hx, rel_int hy, Builtin.min_, Builtin.min2]
        · cases hv
      · cases hv
    · cases hv
  · cases hv
end Go.VM
