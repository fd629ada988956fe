/- Operations that look past a slice's end, where the row has more: reslicing, append in place, clear; slices with three indexes whose value is not used. -/
import Derived.Test.YtoenfbbadfcfpaaGreatDoorPVMD
set_option linter.unusedSimpArgs false
set_option linter.unusedVariables false
namespace Go.VM
open Go
theorem opOk_of {P : Program} {fid : Nat} {o : Oper} {env : Nat → VV} {st : St} {e : Eff}
    (h : ∀ w ow bs fr a, Rel w ow bs st fr → RelE w ow bs st fr env a → Room fr fid → Does w ow bs st fr (fun y => fr y ∧ ¬ Mine fid y) ((execOp a.eval o).run P w) e.v (st.ups e.ups)) : OpOk P fid o env st e := by
  intro w ow bs fr a hr he hroom next Q hk
  obtain ⟨val, w', ow', bs', h1, h2, h3, h4, h5⟩ := h w ow bs fr a hr he hroom
  have hn := hk val w' ow' bs' h4 h2 h3 h5
  unfold Oper.wp
  rcases h1 with h1 | ⟨h1, rfl⟩
  · rw [h1, Oper.upon_value]; exact hn
  · rw [h1, Oper.upon_skip]; exact hn
/-- What a slice of a root is in memory: its room. -/
theorem room_of {w ow bs st fr} (h : Rel w ow bs st fr) {r p m sz off len R sz' rows v} (hs : seek st r p m = some (R, sz', rows)) (rx : RelV w ow bs st fr (.al r p m sz off len) v) {n : Nat} (hn : off + n ≤ rows.length) :
    ∃ (a : Option Addr) (cap : Nat), v = .slice a len cap ∧ len ≤ cap ∧ n ≤ cap ∧ (a = none → cap = 0) ∧
      (0 < n → ∃ (b : Addr) (l capb : Nat), (bs (r, p)).2 = .slice (some b) l capb ∧ a = some ⟨b.block, b.off + off * sz, none⟩) := by
  obtain ⟨hr, hf, hnv⟩ := seek_some hs
  have hroot := (h.root r R hr).nav hnv
  simp only [List.nil_append] at hroot
  cases rx with
  | @al _ _ _ _ _ _ _ hnf hh hsl hm =>
  obtain ⟨hb, hsb⟩ := hh (seek_still hs)
  obtain ⟨a, cap, rfl, hcap, hnone, hspot⟩ := hsl
  rcases hsb with ⟨b, l, capb, o, cap', hbv, hv, ho, hfit, hle, hex, hexo⟩ | ⟨l, capb, hbv, hl0, hv⟩
  · simp only [Value.slice.injEq] at hv
    obtain ⟨rfl, _, rfl⟩ := hv
    have hrl : rows.length ≤ capb := by
      rw [hbv] at hroot
      cases hroot with
      | ro h => cases h
      | list base spot own blk free hlen hcap' fits hrows cells => omega
    refine ⟨_, _, rfl, hle, by omega, (fun e => by cases e), fun h0 => ⟨b, l, capb, hbv, ?_⟩⟩
    rcases hexo with h1 | h1
    · omega
    · rw [h1]
  · simp only [Value.slice.injEq] at hv
    obtain ⟨rfl, rfl, rfl⟩ := hv
    have hr0 : rows = [] := by
      rw [hbv] at hroot
      cases hroot with
      | ro h => cases h
      | nil => rfl
    subst hr0
    simp only [List.length_nil] at hn
    exact ⟨none, 0, rfl, Nat.le_refl _, by omega, fun _ => rfl, fun h0 => by omega⟩
theorem bounds2 {P : Program} {w ow bs st fr} {lo hi : Option VV} {vlo vhi : Option Value} {l h len cap : Nat}
    (rlo : ∀ y, lo = some y → ∃ v, vlo = some v ∧ RelV w ow bs st fr y v) (rlo' : lo = none → vlo = none) (rhi : ∀ y, hi = some y → ∃ v, vhi = some v ∧ RelV w ow bs st fr y v) (rhi' : hi = none → vhi = none)
    (hl : boundV lo 0 = some l) (hh : boundV hi len = some h) (hlh : l ≤ h) (hhc : h ≤ cap) (isSlice : Bool) :
    (Instr.sliceBounds isSlice len cap vlo vhi none).run P w = .ok (l, h, cap) w := by
  unfold Instr.sliceBounds
  cases hi with
  | none =>
    obtain rfl := rhi' rfl
    simp only [boundV, Option.some.injEq] at hh; subst hh
    cases lo with
    | none => obtain rfl := rlo' rfl; simp only [boundV, Option.some.injEq] at hl; subst hl; simp
    | some y =>
      obtain ⟨v, rfl, rv⟩ := rlo y rfl
      simp [bound_run rv hl _ hlh]
  | some y2 =>
    obtain ⟨v2, rfl, rv2⟩ := rhi y2 rfl
    cases lo with
    | none =>
      obtain rfl := rlo' rfl; simp only [boundV, Option.some.injEq] at hl; subst hl
      simp [bound_run rv2 hh cap (by omega)]
    | some y =>
      obtain ⟨v, rfl, rv⟩ := rlo y rfl
      simp [bound_run rv2 hh cap (by omega), bound_run rv hl _ hlh]
/-! ### a slice again, past its length -/
def sliceX (P : Program) (st : St) (t : TypeId) (x : VV) (lo hi : Option VV) : Option VV :=
  match x with
  | .al r p m sz off len =>
    match boundV lo 0, boundV hi len, elemT P t, seek st r p m with
    | some l, some h, some e, some (_, sz', rows) => if P.cellsOf e = sz ∧ sz' = sz ∧ l ≤ h ∧ off + h ≤ rows.length then some (.al r p m sz (off + l) (h - l)) else none
    | _, _, _, _ => none
  | _ => none
theorem sliceX_run {P : Program} {w ow bs st fr} (hrel : Rel w ow bs st fr) {t : TypeId} {x z : VV} {vx : Value} {lo hi : Option VV} {vlo vhi : Option Value} (rx : RelV w ow bs st fr x vx)
    (rlo : ∀ y, lo = some y → ∃ v, vlo = some v ∧ RelV w ow bs st fr y v) (rlo' : lo = none → vlo = none) (rhi : ∀ y, hi = some y → ∃ v, vhi = some v ∧ RelV w ow bs st fr y v) (rhi' : hi = none → vhi = none)
    (hz : sliceX P st t x lo hi = some z) :
    ∃ u, (Instr.sliceAt t vx vlo vhi none).run P w = .ok u w ∧ RelV w ow bs st fr z u := by
  unfold sliceX at hz
  split at hz
  case h_2 => cases hz
  rename_i r p m sz off len
  split at hz
  case h_2 => cases hz
  rename_i l h e R sz' rows hl hh he hs
  split at hz
  case isFalse => cases hz
  rename_i hc
  obtain ⟨hsz, rfl, hlh, hhr⟩ := hc
  simp only [Option.some.injEq] at hz
  subst hz
  obtain ⟨hu, hne⟩ := elemT_some he
  obtain ⟨a, cap, rfl, hlc, hnc, hnone, hpos⟩ := room_of hrel hs rx hhr
  have hb2 := bounds2 (P := P) (w := w) (len := len) (cap := cap) rlo rlo' rhi rhi' hl hh hlh hnc true
  refine ⟨.slice (if cap = l then a else a.map (·.add (l * P.cellsOf e))) (h - l) (cap - l), ?_, ?_⟩
  · simp [Instr.sliceAt, Instr.slice, run_underlying hu, hb2, sizeOf_run hne]
  cases rx with
  | @al _ _ _ _ _ _ _ hnf hh2 hsl hm =>
  obtain ⟨_, _, hsv, _, hno2, hspot⟩ := hsl
  simp only [Value.slice.injEq] at hsv
  obtain ⟨rfl, _, rfl⟩ := hsv
  refine .al hnf (fun hst => ?_) ⟨_, _, rfl, by omega, ?_, ?_⟩ hm
  · obtain ⟨hb, hsub⟩ := hh2 hst
    refine ⟨hb, ?_⟩
    rcases hsub with ⟨b, lb, capb, o, cap', hbv, hv, ho, hfit, hle, hex, hexo⟩ | ⟨lb, capb, hbv, hl0, hv⟩
    · simp only [Value.slice.injEq] at hv
      obtain ⟨rfl, _, rfl⟩ := hv
      by_cases hml : cap = l
      · refine .inl ⟨b, lb, capb, o, 0, hbv, ?_, .inl (by omega), by omega, by omega, by omega, .inl rfl⟩
        simp [hml]
      · refine .inl ⟨b, lb, capb, o + l * sz', cap - l, hbv, ?_, .inr ?_, ?_, by omega, by omega, .inr ?_⟩
        · simp only [hml, if_false, Option.map_some, hsz]
          rw [add_eq _ _ rfl]
        · rcases hexo with h0 | h0
          · omega
          · rw [h0, Nat.add_mul]; omega
        · have : l * sz' + (cap - l) * sz' = cap * sz' := by rw [← Nat.add_mul]; congr 1; omega
          omega
        · rcases hexo with h0 | h0
          · omega
          · rw [h0, Nat.add_mul]; omega
    · simp only [Value.slice.injEq] at hv
      obtain ⟨rfl, rfl, rfl⟩ := hv
      refine .inr ⟨lb, capb, hbv, by omega, ?_⟩
      have : l = 0 := by omega
      have : h = 0 := by omega
      simp_all
  · intro hn
    have : a = none := by
      split at hn
      · exact hn
      · cases a with
        | none => rfl
        | some a => simp at hn
    have := hno2 this
    omega
  · intro b hb
    split at hb
    · exact hspot b hb
    · cases a with
      | none => simp at hb
      | some a =>
        simp only [Option.map_some, Option.some.injEq] at hb
        subst hb
        rw [add_eq _ _ (hspot a rfl)]
theorem op_sliceX {P : Program} {fid : Nat} {env : Nat → VV} {st : St} {dst : Option Tmp} {t ty : TypeId} {x : Operand} {lo hi : Option Operand} {pos : String} {after : Array Edge} {g : Option (Nat × Bool)} {z : VV}
    (hz : sliceX P st t (ev P env t x) (lo.map (ev P env 0)) (hi.map (ev P env 0)) = some z) : OpOk P fid ⟨dst, .slice t x lo hi none, ty, pos, after, g⟩ env st ⟨z, []⟩ := by
  refine opOk_of (fun w ow bs fr a hr he hroom => ?_)
  have R : ∀ t x, RelV w ow bs st fr (ev P env t x) (a.eval x) := fun t x => ev_rel he t x
  obtain ⟨u, h1, h2⟩ := sliceX_run (P := P) hr (R t x) (vlo := lo.map a.eval) (vhi := hi.map a.eval)
    (fun y hy => by cases lo with | none => cases hy | some l => simp only [Option.map_some, Option.some.injEq] at hy; subst hy; exact ⟨_, rfl, R 0 l⟩)
    (fun hy => by cases lo with | none => rfl | some l => cases hy)
    (fun y hy => by cases hi with | none => cases hy | some l => simp only [Option.map_some, Option.some.injEq] at hy; subst hy; exact ⟨_, rfl, R 0 l⟩)
    (fun hy => by cases hi with | none => rfl | some l => cases hy) hz
  exact does_of hr minus_sub h1 h2
/-! ### a slice with three indexes, of whose value nothing is known -/
def slice3V (P : Program) (t : TypeId) (x : VV) (lo hi mx : Option VV) : Bool :=
  match x with
  | .al _ _ _ sz _ len =>
    match boundV lo 0, hi, boundV hi len, mx, boundV mx len, elemT P t with
    | some l, some _, some h, some _, some m, some e => decide (P.cellsOf e = sz ∧ l ≤ h ∧ h ≤ m ∧ m ≤ len)
    | _, _, _, _, _, _ => false
  | _ => false
theorem op_slice3 {P : Program} {fid : Nat} {env : Nat → VV} {st : St} {dst : Option Tmp} {t ty : TypeId} {x : Operand} {lo hi mx : Option Operand} {pos : String} {after : Array Edge} {g : Option (Nat × Bool)}
    (hz : slice3V P t (ev P env t x) (lo.map (ev P env 0)) (hi.map (ev P env 0)) (mx.map (ev P env 0)) = true) : OpOk P fid ⟨dst, .slice t x lo hi mx, ty, pos, after, g⟩ env st ⟨.undef, []⟩ := by
  refine opOk_of (fun w ow bs fr a hr he hroom => ?_)
  have R : ∀ t x, RelV w ow bs st fr (ev P env t x) (a.eval x) := fun t x => ev_rel he t x
  unfold slice3V at hz
  split at hz
  case h_2 => cases hz
  rename_i r p m sz off len hx
  split at hz
  case h_2 => cases hz
  rename_i l y h y2 mm e hl hy hh hy2 hm' he'
  simp only [decide_eq_true_eq] at hz
  obtain ⟨hsz, hlh, hhm, hml⟩ := hz
  obtain ⟨hu, hne⟩ := elemT_some he'
  have rx := R t x
  rw [hx] at rx
  generalize hxv : a.eval x = vx at rx
  cases rx with
  | @al _ _ _ _ _ _ _ hnf hh2 hsl hmm =>
  obtain ⟨ad, cap, rfl, hcap, hnone, hspot⟩ := hsl
  cases hi with
  | none => cases hy
  | some hi =>
  cases mx with
  | none => cases hy2
  | some mx =>
  simp only [Option.map_some] at hy hy2 hh hm'
  have hb : (Instr.sliceBounds true len cap (lo.map a.eval) (some (a.eval hi)) (some (a.eval mx))).run P w = .ok (l, h, mm) w := by
    unfold Instr.sliceBounds
    have e1 := bound_run (P := P) (R 0 mx) hm' cap (by omega)
    have e2 := bound_run (P := P) (R 0 hi) hh mm hhm
    cases lo with
    | none =>
      simp only [Option.map_none, boundV, Option.some.injEq] at hl
      subst hl
      simp [e1, e2]
    | some lo =>
      simp only [Option.map_some] at hl
      have e3 := bound_run (P := P) (R 0 lo) hl h hlh
      simp [e1, e2, e3]
  refine does_of hr minus_sub (val := .slice (if mm = l then ad else ad.map (·.add (l * P.cellsOf e))) (h - l) (mm - l)) ?_ .undef
  simp [Instr.sliceAt, Instr.slice, run_underlying hu, hb, sizeOf_run hne, hxv]
/-! ### rows put into a root from a place on -/
theorem put_core {P : Program} {w ow bs st} {fr : Nat → Prop} {fid : Nat} (h : Rel w ow bs st fr) (hroom : Room fr fid) {r p m sz off len R rows v} (hs : seek st r p m = some (R, sz, rows)) (rx : RelV w ow bs st fr (.al r p m sz off len) v)
    {xs : List (List T)} {nv : List Value} (hx : xs ≠ []) {k : Nat} (hk : off + k + xs.length ≤ rows.length) (hsz : sz ≠ 0) (hs1 : sz ≤ 1000) (hnl : nv.length = xs.length * sz) (hrl : ∀ (k : Nat) (row : List T), xs[k]? = some row → row.length = sz)
    (hc : ∀ (k : Nat) (row : List T) (j : Nat) (y : T), xs[k]? = some row → row[j]? = some y → RepR w ow y (nv.getD (k * sz + j) undef) ∧ isOwn y = false ∧ y ≠ .dead) :
    ∃ (a : Addr) (cap : Nat) (w' : World) (ow' : Own) (bs' : Base), v = .slice (some a) len cap ∧ k + xs.length ≤ cap ∧ a.spot = none ∧ (storeCells (a.add (k * sz)) nv 0).run P w = .ok () w' ∧
      Rel w' ow' bs' (st.ups [(r, some { R with rows := modAt (putRows (off + k) xs) R.rows p })]) (fun y => fr y ∧ ¬ Mine fid y) ∧ Steady w ow w' ow' ∧
      Quiet bs st fr bs' (st.ups [(r, some { R with rows := modAt (putRows (off + k) xs) R.rows p })]) (fun y => fr y ∧ ¬ Mine fid y) ∧ ¬ fr r := by
  obtain ⟨hr, hf, hn⟩ := seek_some hs
  have hnf : ¬ fr r := h.notfree hr
  have hxl : 0 < xs.length := List.length_pos_iff.2 hx
  obtain ⟨ao, cap, rfl, hlc, hnc, hnone, hpos⟩ := room_of h hs rx (n := k + xs.length) (by omega)
  obtain ⟨b, l, capb, hbv, rfl⟩ := hpos (by omega)
  have haddr : (⟨b.block, b.off + off * sz, none⟩ : Addr).add (k * sz) = ⟨b.block, b.off + off * sz + k * sz, none⟩ := add_eq _ _ rfl
  obtain ⟨w', ow', bs', st', q1, q2, q3, q4, q5, q6⟩ := copy_core (P := P) (p := p) (r := r) (t0 := fid) xs nv (off + k) ⟨b.block, b.off + off * sz + k * sz, none⟩ h hr hn hbv rfl rfl (by simp only [Nat.add_mul]; omega) hk hnl hrl hsz
    (fun k hk => ⟨fun e' => hnf (by rw [← e']; exact hroom k (by omega)), hroom k (by omega)⟩) hc
  have hsub : ∀ y R', (st.ups [(r, some { R with rows := modAt (putRows (off + k) xs) R.rows p })]) y = some R' → st' y = some R' := by
    intro y R' hy
    simp only [St.ups_cons, St.ups_nil] at hy
    by_cases ey : y = r
    · subst ey; rw [St.put_eq] at hy; rw [q5]; exact hy
    · rw [St.put_ne _ _ ey] at hy; exact (q6 y ey R').1 hy
  exact ⟨_, cap, w', ow', bs', rfl, hnc, rfl, by rw [haddr]; exact q1, (q2.sub hsub).shrink minus_sub, q3, q4.to (fun y R' _ hy => hsub y R' hy) minus_sub, hnf⟩
theorem put_none {st : St} {r p m sz R rows} (hs : seek st r p m = some (R, sz, rows)) (i : Nat) : st.ups [(r, some { R with rows := modAt (putRows i []) R.rows p })] = st := by
  obtain ⟨hr, _, hn⟩ := seek_some hs
  have e : modAt (putRows i []) R.rows p = R.rows := modAt_same i hn
  funext y
  simp only [St.ups_cons, St.ups_nil, e]
  by_cases ey : y = r
  · subst ey; rw [St.put_eq, hr]
  · rw [St.put_ne _ _ ey]
/-! ### append in place -/
def appendInV (P : Program) (st : St) (sT xT : TypeId) (s x : VV) : Option Eff :=
  match elemT P sT with
  | none => none
  | some e =>
    if elemT P xT = none then none else
    match s, rowsOf st x with
    | .al r p m sz off len, some (szx, xs) =>
      match seek st r p m with
      | some (R, sz', rows) =>
        if szx = P.cellsOf e ∧ sz = szx ∧ sz' = sz ∧ sz ≤ 1000 ∧ off + len + xs.length ≤ rows.length ∧ noOwn xs = true then
          some ⟨.al r p m sz off (len + xs.length), [(r, some { R with rows := modAt (putRows (off + len) xs) R.rows p })]⟩
        else none
      | none => none
    | _, _ => none
theorem op_appendIn {P : Program} {fid : Nat} {env : Nat → VV} {st : St} {dst : Option Tmp} {sT xT ty : TypeId} {s x : Operand} {pos : String} {after : Array Edge} {g : Option (Nat × Bool)} {eff : Eff}
    (hv : appendInV P st sT xT (ev P env sT s) (ev P env xT x) = some eff) : OpOk P fid ⟨dst, .call { callee := .builtin .append, args := #[s, x], argTypes := #[sT, xT] }, ty, pos, after, g⟩ env st eff := by
  refine opOk_of (fun w ow bs fr a h he hroom => ?_)
  have R : ∀ t x, RelV w ow bs st fr (ev P env t x) (a.eval x) := fun t x => ev_rel he t x
  have rs := R sT s
  have rx := R xT x
  generalize hsv : a.eval s = vs at rs
  generalize hxv : a.eval x = vx at rx
  unfold appendInV at hv
  split at hv
  · cases hv
  rename_i e hes
  obtain ⟨hu, hne⟩ := elemT_some hes
  split at hv
  · cases hv
  rename_i hxe
  split at hv
  case h_2 => cases hv
  rename_i r p m sz off len szx xs hal hxs
  split at hv
  case h_2 => cases hv
  rename_i R0 sz' rows hs
  split at hv
  case isFalse => cases hv
  rename_i hc
  obtain ⟨rfl, rfl, rfl, hle, hfit, hno⟩ := hc
  simp only [Option.some.injEq] at hv
  subst hv
  rw [hal] at rs
  obtain ⟨e2, hxe2⟩ : ∃ e2, elemT P xT = some e2 := by
    cases h0 : elemT P xT with
    | none => exact absurd h0 hxe
    | some e2 => exact ⟨e2, rfl⟩
  have hux := (elemT_some hxe2).1
  obtain ⟨⟨ax, capx, hvx⟩, nv, f1, f2, f3, f4⟩ := first_cellsN (P := P) h rx hxs hno xs.length (Nat.le_refl _)
  rw [List.take_length] at f3 f4
  have hlen : (Builtin.lenOf vx).run P w = .ok xs.length w := by rw [hvx]; simp [Builtin.lenOf]
  have base0 : ∀ (a0 : Option Addr) (cap : Nat), vs = .slice a0 len cap → len + xs.length ≤ cap → (Builtin.append_ #[sT, xT] ty #[vs, vx]).run P w = (do
          let new ← Builtin.firstCells (P.cellsOf e) xs.length vx
          if let some a := a0 then storeCells (a.add (len * P.cellsOf e)) new.toList
          pure (.slice a0 (len + xs.length) cap) : Sem Value).run P w := by
    intro a0 cap hv0 hcap
    rw [hv0]
    simp [Builtin.append_, run_underlying hu, run_underlying hux, sizeOf_run hne, hlen, hcap]
    cases a0 <;> rfl
  have hexec : ∀ {q : Result Next}, ((do pure (Next.value (← Builtin.append_ #[sT, xT] ty #[vs, vx])) : Sem Next).run P w) = q → (execOp a.eval ⟨dst, .call { callee := .builtin .append, args := #[s, x], argTypes := #[sT, xT] }, ty, pos, after, g⟩).run P w = q := by
    intro q hq
    rw [← hq]
    simp [execOp, resolve, invoke, builtin, hsv, hxv]
  by_cases hx0 : xs = []
  · subst hx0
    have hnil : nv = [] := by simpa using f2
    subst hnil
    obtain ⟨a0, cap, rfl, h1, _, _, _⟩ := room_of h hs rs (n := 0) (by simp at hfit; omega)
    rw [put_none hs]
    refine ⟨.slice a0 len cap, w, ow, bs, .inl (hexec ?_), h.shrink minus_sub, ?_, Steady.refl _ _, Quiet.shrink minus_sub⟩
    · have := base0 a0 cap rfl (by simpa using h1)
      simp only [List.length_nil, Nat.add_zero] at this f1
      rw [Sem.run_bind, this]
      cases a0 <;> simp [f1, storeCells]
    · exact rs.mono (Kept.refl _ _) (Quiet.shrink minus_sub)
  · obtain ⟨b, cap, w', ow', bs', rfl, k1, k2, k3, k4, k5, k6, k7⟩ := put_core (P := P) h hroom hs rs hx0 (k := len) (by omega) hne hle f2 f3 f4
    refine ⟨.slice (some b) (len + xs.length) cap, w', ow', bs', .inl (hexec ?_), k4, ?_, k5, k6⟩
    · have := base0 (some b) cap rfl k1
      rw [Sem.run_bind, this]
      simp [f1, k3]
    · refine RelV.mono k5.kept k6 (?_ : RelV w ow bs st fr _ _)
      cases rs with
      | @al _ _ _ _ _ _ _ hnf hh2 hsl hm =>
      refine .al hnf (fun hst => ?_) ⟨_, _, rfl, k1, (fun e => by cases e), (fun b' e => by cases e; exact k2)⟩ hm
      obtain ⟨hb, hsub⟩ := hh2 hst
      refine ⟨hb, ?_⟩
      rcases hsub with ⟨b2, lb, capb, o, cap', hbv, hv, ho, hfit2, hle2, hex, hexo⟩ | ⟨lb, capb, hbv, hl0, hv⟩
      · simp only [Value.slice.injEq, Option.some.injEq, true_and] at hv
        obtain ⟨rfl, rfl⟩ := hv
        have hxl : 0 < xs.length := List.length_pos_iff.2 hx0
        refine .inl ⟨b2, lb, capb, o, cap, hbv, rfl, ?_, hfit2, k1, hex, hexo⟩
        rcases hexo with h0 | h0
        · omega
        · exact .inr h0
      · cases hv
/-! ### clear -/
def clearV (P : Program) (st : St) (t : TypeId) (x : VV) : Option Eff :=
  match elemT P t with
  | none => none
  | some e =>
    match zeroT P e, x with
    | some z, .al r p m sz off len =>
      match seek st r p m with
      | some (R, sz', rows) => if sz = P.cellsOf e ∧ sz' = sz ∧ sz ≤ 1000 ∧ off + len ≤ rows.length ∧ noOwn [z] = true then some ⟨.undef, [(r, some { R with rows := modAt (putRows off (List.replicate len z)) R.rows p })]⟩ else none
      | none => none
    | _, _ => none
theorem sameZero_plain {w ow} {x : T} {v : Value} (h : sameZero x v = true) (hp : plainT x = true) : RepR w ow x v ∧ isOwn x = false ∧ x ≠ .dead := by
  rcases sameZero_rel (w := w) (ow := ow) h with h1 | ⟨s, rfl, _⟩
  · refine ⟨h1, ?_, ?_⟩
    · cases x with
      | list o _ _ => cases o <;> simp_all [plainT, isOwn]
      | _ => rfl
    · rintro rfl; simp [plainT] at hp
  · simp [plainT] at hp
theorem op_clear {P : Program} {fid : Nat} {env : Nat → VV} {st : St} {dst : Option Tmp} {t ty : TypeId} {x : Operand} {pos : String} {after : Array Edge} {g : Option (Nat × Bool)} {eff : Eff}
    (hv : clearV P st t (ev P env t x) = some eff) : OpOk P fid ⟨dst, .call { callee := .builtin .clear, args := #[x], argTypes := #[t] }, ty, pos, after, g⟩ env st eff := by
  refine opOk_of (fun w ow bs fr a h he hroom => ?_)
  have R : ∀ t x, RelV w ow bs st fr (ev P env t x) (a.eval x) := fun t x => ev_rel he t x
  have rx := R t x
  generalize hxv : a.eval x = vx at rx
  unfold clearV at hv
  split at hv
  · cases hv
  rename_i e hes
  obtain ⟨hu, hne⟩ := elemT_some hes
  split at hv
  case h_2 => cases hv
  rename_i z r p m sz off len hz hal
  split at hv
  case h_2 => cases hv
  rename_i R0 sz' rows hs
  split at hv
  case isFalse => cases hv
  rename_i hc
  obtain ⟨rfl, rfl, hle, hfit, hno⟩ := hc
  simp only [Option.some.injEq] at hv
  subst hv
  rw [hal] at rx
  obtain ⟨zv, hz1, hz2, hz3, hz4⟩ := zeroT_some hz w
  have hexec : ∀ {q : Result Next}, ((do pure (Next.value (← Builtin.clear_ #[t] ty #[vx])) : Sem Next).run P w) = q → (execOp a.eval ⟨dst, .call { callee := .builtin .clear, args := #[x], argTypes := #[t] }, ty, pos, after, g⟩).run P w = q := by
    intro q hq
    rw [← hq]
    simp [execOp, resolve, invoke, builtin, hxv]
  by_cases h0 : len = 0
  · subst h0
    obtain ⟨a0, cap, rfl, _, _, _, _⟩ := room_of h hs rx (n := 0) (by omega)
    rw [List.replicate_zero, put_none hs]
    refine ⟨.tuple #[], w, ow, bs, .inl (hexec ?_), h.shrink minus_sub, .undef, Steady.refl _ _, Quiet.shrink minus_sub⟩
    cases a0 <;> simp [Builtin.clear_, run_underlying hu]
  · have hnl : (Builtin.zeroCells zv.cells len).toList.length = (List.replicate len z).length * P.cellsOf e := by
      simp [Builtin.zeroCells]; rw [← hz2, hz3]
    have hrep : ∀ (k : Nat) (row : List T), (List.replicate len z)[k]? = some row → row = z ∧ k < len := by
      intro k row hk
      rw [List.getElem?_replicate] at hk
      split at hk
      · simp only [Option.some.injEq] at hk; exact ⟨hk.symm, by assumption⟩
      · cases hk
    obtain ⟨b, cap, w', ow', bs', rfl, k1, k2, k3, k4, k5, k6, k7⟩ := put_core (P := P) h hroom hs rx (xs := List.replicate len z) (nv := (Builtin.zeroCells zv.cells len).toList) (fun e => h0 (by have := congrArg List.length e; simpa using this)) (k := 0) (by simp; omega) hne hle hnl
      (fun k row hk => by rw [(hrep k row hk).1]; exact hz3)
      (fun k row j y hk hj => by
        obtain ⟨rfl, hkl⟩ := hrep k row hk
        have hjl := lt_of_getl hj
        have hm2 : (k + 1) * P.cellsOf e ≤ len * P.cellsOf e := Nat.mul_le_mul_right _ hkl
        rw [Nat.add_mul] at hm2
        have hzs : zv.cells.size = P.cellsOf e := by rw [← hz2]; exact hz3
        have hpl : plainT y = true := by
          simp only [noOwn, List.all_cons, List.all_nil, Bool.and_true, List.all_eq_true] at hno
          exact hno y (List.mem_of_getElem? hj)
        have hcell : (Builtin.zeroCells zv.cells len).toList.getD (k * P.cellsOf e + j) undef = zv.cells.getD j undef := by
          have hlt : k * P.cellsOf e + j < len * zv.cells.size := by rw [hzs]; omega
          have hmod : (k * P.cellsOf e + j) % zv.cells.size = j := by rw [hzs, Nat.add_comm, Nat.add_mul_mod_self_right, Nat.mod_eq_of_lt (by omega)]
          have := zrange_get zv.cells (len * zv.cells.size) (k * P.cellsOf e + j) hlt (by rw [hmod]; omega)
          rw [hmod] at this
          rw [← this, List.getD_eq_getElem?_getD, Array.getD_eq_getD_getElem?, ← Array.getElem?_toList]
          rfl
        rw [hcell]
        exact sameZero_plain (hz4 j y hj) hpl)
    simp only [Nat.add_zero, Nat.zero_mul] at k3 k4 k6
    refine ⟨.tuple #[], w', ow', bs', .inl (hexec ?_), k4, .undef, k5, k6⟩
    have hb0 : b.add 0 = b := by cases b; simp [Addr.add]
    rw [hb0] at k3
    obtain ⟨len', rfl⟩ : ∃ n, len = n + 1 := ⟨len - 1, by omega⟩
    simp [Builtin.clear_, run_underlying hu, hz1, k3]
theorem appendInV_congr {P : Program} {st st' : St} {sT xT : TypeId} {s x : VV} (hs : ∀ r ∈ s.roots, st' r = st r) (hx : ∀ r ∈ x.roots, st' r = st r) : appendInV P st' sT xT s x = appendInV P st sT xT s x := by
  unfold appendInV
  rw [rowsOf_congr hx]
  cases s with
  | al r p m sz off len =>
    have e : st' r = st r := hs r (by simp [VV.roots, VV.cells, VV.root1])
    have e2 : seek st' r p m = seek st r p m := by simp only [seek, e]
    cases rowsOf st x with
    | none => rfl
    | some q =>
      obtain ⟨szx, xs⟩ := q
      simp only [e2]
  | _ => rfl
theorem op_appendIn_at {P : Program} {fid : Nat} {env : Nat → VV} {st : St} {dst : Option Tmp} {sT xT ty : TypeId} {a b : Tmp} {pos : String} {after : Array Edge} {g : Option (Nat × Bool)} {eff : Eff}
    (hv : appendInV P st sT xT (env a) (env b) = some eff) :
    OpAt P fid ⟨dst, .call { callee := .builtin .append, args := #[.tmp a, .tmp b], argTypes := #[sT, xT] }, ty, pos, after, g⟩ ((env a).roots ++ (env b).roots) env st eff := by
  intro env' st' he hs
  have ea : env' a = env a := he a (by simp [tmpsOf, Op.operands, Call.operands])
  have eb : env' b = env b := he b (by simp [tmpsOf, Op.operands, Call.operands])
  refine op_appendIn ?_
  show appendInV P st' sT xT (env' a) (env' b) = some eff
  rw [ea, eb, appendInV_congr (fun r hr => hs r (List.mem_append.2 (.inl hr))) (fun r hr => hs r (List.mem_append.2 (.inr hr)))]
  exact hv
/-! ### what is put, as a list -/
theorem setCells_whole : ∀ (x row : List T) (j : Nat) (pre : List T) (i : Nat) (rows : List (List T)), rows[i]? = some (pre ++ row) → pre.length = j → x.length = row.length → setCells i j x rows = rows.set i (pre ++ x)
  | [], row, j, pre, i, rows, h, hp, hl => by
    have : row = [] := List.eq_nil_of_length_eq_zero (by simpa using hl.symm)
    subst this
    rw [setCells_nil]
    exact (set_same h).symm
  | y :: ys, row, j, pre, i, rows, h, hp, hl => by
    cases row with
    | nil => cases hl
    | cons z row =>
      rw [setCells_cons]
      have hi := lt_of_getl h
      have e : setIn i j y rows = rows.set i (pre ++ y :: row) := by
        unfold setIn
        rw [getD_of h, ← hp, List.set_append_right _ _ (Nat.le_refl _), Nat.sub_self]
        rfl
      rw [e, setCells_whole ys row (j + 1) (pre ++ [y]) i (rows.set i (pre ++ y :: row)) (by rw [List.getElem?_set_self hi]; simp) (by simp [hp]) (by simpa using hl)]
      rw [List.set_set]
      simp
theorem putRows_list {sz : Nat} : ∀ (xs : List (List T)) (i : Nat) (rows : List (List T)), (∀ r ∈ rows, r.length = sz) → (∀ x ∈ xs, x.length = sz) → i + xs.length ≤ rows.length → putRows i xs rows = rows.take i ++ xs ++ rows.drop (i + xs.length)
  | [], i, rows, _, _, _ => by simp [putRows]
  | x :: xs, i, rows, hr, hx, hl => by
    simp only [List.length_cons] at hl
    obtain ⟨row, hrow⟩ : ∃ row, rows[i]? = some row := ⟨_, List.getElem?_eq_getElem (by omega)⟩
    have h1 : setCells i 0 x rows = rows.set i x := setCells_whole x row 0 [] i rows hrow rfl (by rw [hx x (by simp), hr row (List.mem_of_getElem? hrow)])
    rw [putRows, h1, putRows_list xs (i + 1) (rows.set i x) (fun r hm => by
      rcases List.mem_or_eq_of_mem_set hm with h | h
      · exact hr r h
      · rw [h]; exact hx x (by simp)) (fun y hy => hx y (by simp [hy])) (by rw [List.length_set]; omega)]
    have ht : (rows.set i x).take (i + 1) = rows.take i ++ [x] := by
      rw [List.take_add_one, List.take_set_of_le (Nat.le_refl _), List.getElem?_set_self (by omega)]
      rfl
    have hd : (rows.set i x).drop (i + 1 + xs.length) = rows.drop (i + (xs.length + 1)) := by
      rw [List.drop_set_of_lt (by omega)]
      congr 1
      omega
    rw [ht, hd]
    simp
theorem bound_nat (n d : Nat) : boundV (some (.c (.int .i64 (n : Int)))) d = some n := by
  show (if (0 : Int) ≤ (n : Int) then some ((n : Int).toNat) else none) = some n
  rw [if_pos (by omega)]; rfl
theorem slice3V_al {P : Program} {t e : TypeId} {r : Nat} {p : Path} {m sz off len l h mm : Nat} (he : elemT P t = some e) (hsz : P.cellsOf e = sz) (h1 : l ≤ h) (h2 : h ≤ mm) (h3 : mm ≤ len) :
    slice3V P t (.al r p m sz off len) (some (.c (.int .i64 (l : Int)))) (some (.c (.int .i64 (h : Int)))) (some (.c (.int .i64 (mm : Int)))) = true := by
  have a1 : boundV (some (.c (.int .i64 (l : Int)))) 0 = some l := bound_nat _ _
  have a2 : boundV (some (.c (.int .i64 (h : Int)))) len = some h := bound_nat _ _
  have a3 : boundV (some (.c (.int .i64 (mm : Int)))) len = some mm := bound_nat _ _
  unfold slice3V
  simp only [a1, a2, a3, he]
  exact decide_eq_true ⟨hsz, h1, h2, h3⟩
theorem sliceX_al {P : Program} {st : St} {t e : TypeId} {r : Nat} {p : Path} {m sz off len l h : Nat} {R : Root} {rows : List (List T)} (he : elemT P t = some e) (hsz : P.cellsOf e = sz) (hs : seek st r p m = some (R, sz, rows)) (h1 : l ≤ h) (h2 : off + h ≤ rows.length) :
    sliceX P st t (.al r p m sz off len) (some (.c (.int .i64 (l : Int)))) (some (.c (.int .i64 (h : Int)))) = some (.al r p m sz (off + l) (h - l)) := by
  have a1 : boundV (some (.c (.int .i64 (l : Int)))) 0 = some l := bound_nat _ _
  have a2 : boundV (some (.c (.int .i64 (h : Int)))) len = some h := bound_nat _ _
  unfold sliceX
  simp [a1, a2, he, hs, hsz, h1, h2]
theorem seek_root {st : St} {r m : Nat} {R : Root} (hs : st r = some R) : seek st r [] m = some (R, R.sz, R.rows) := by
  unfold seek
  rw [hs]
  rfl
theorem appendIn_al {P : Program} {st : St} {sT xT e e2 : TypeId} {r m sz off len : Nat} {R : Root} {x : VV} {xs rows' : List (List T)} (he : elemT P sT = some e) (he2 : elemT P xT = some e2) (hsz : P.cellsOf e = sz) (h1 : sz ≤ 1000) (hs : st r = some R) (hR : R.sz = sz)
    (hx : rowsOf st x = some (sz, xs)) (hn : noOwn xs = true) (hl : off + len + xs.length ≤ R.rows.length) (hp : putRows (off + len) xs R.rows = rows') :
    appendInV P st sT xT (.al r [] m sz off len) x = some ⟨.al r [] m sz off (len + xs.length), [(r, some ⟨R.box, sz, rows', R.log⟩)]⟩ := by
  subst hR
  unfold appendInV
  simp only [he, he2, hx, seek_root hs]
  rw [if_neg (by simp)]
  rw [if_pos ⟨hsz.symm, trivial, trivial, h1, hl, hn⟩, ← hp]
  rfl
theorem clear_al {P : Program} {st : St} {t e : TypeId} {r m sz off len : Nat} {R : Root} {z : List T} {rows' : List (List T)} (he : elemT P t = some e) (hz : zeroT P e = some z) (hsz : P.cellsOf e = sz) (h1 : sz ≤ 1000) (hs : st r = some R) (hR : R.sz = sz) (hn : noOwn [z] = true)
    (hl : off + len ≤ R.rows.length) (hp : putRows off (List.replicate len z) R.rows = rows') :
    clearV P st t (.al r [] m sz off len) = some ⟨.undef, [(r, some ⟨R.box, sz, rows', R.log⟩)]⟩ := by
  subst hR
  unfold clearV
  simp only [he, hz, seek_root hs]
  rw [if_pos ⟨hsz.symm, trivial, h1, hl, hn⟩, ← hp]
  rfl
end Go.VM
