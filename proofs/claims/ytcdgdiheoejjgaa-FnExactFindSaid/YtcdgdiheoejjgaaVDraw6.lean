/- Regions whose order is left open: the rule itself. -/
import Derived.Test.YtcdgdiheoejjgaaVDraw5
namespace Go.VM
set_option linter.unusedSimpArgs false
set_option linter.unusedVariables false

def frL (nx : Nat) (L : Array Bool) : Nat → Prop := fun x => nx ≤ x ∧ ∀ i, L.getD i false = true → ¬ Mine (nx + 1024 * i) x

theorem wantedV_congr {ops : Array Oper} {o : Oper} {env env' : Nat → VV} (h : ∀ t ∈ o.looksAt ops, env' t = env t) : wantedV ops o env' = wantedV ops o env := by
  unfold wantedV
  cases hg : o.guard with
  | none => rfl
  | some g =>
    obtain ⟨j, want⟩ := g
    simp only
    cases hd : (ops[j]?).bind (·.dst) with
    | none => rfl
    | some d =>
      simp only
      rw [h d (by simp [Oper.looksAt, hg, hd])]

theorem draw_sound {P : Program} {ops : Array Oper} {nx n K : Nat} {Q : Exit → FS → Prop} {its : List It} {s0 : ES} {w0 : World} {ow0 : Own} {bs0 : Base} (hd : dstOk n ops.toList = true) (he : edgesOk ops = true) (hp : pairsOk (precs ops.toList []) its = true) (hlen : its.length = ops.size)
    (hit : ∀ (j : Nat) (x : It), its[j]? = some x → ∃ o, ops[j]? = some o ∧ ItOk P ops nx j o (foldI (its.take j) s0) x) (hQ : Q .normal ⟨(foldI its s0).1, (foldI its s0).2, nx + 1024 * ops.size⟩) (hK : K ≤ nx) :
    ∀ (fuel : Nat) (L : Array Bool) {w ow bs a}, L.size = ops.size → Closed ops L → (unl ops.size L).length ≤ fuel → Since K w0 ow0 bs0 w ow bs → Rel w ow bs (foldS (marks L its) s0).2 (frL nx L) → RelE w ow bs (foldS (marks L its) s0).2 (frL nx L) (foldS (marks L its) s0).1 a → a.tmps.size = n → a.defers = [] →
      wpAny P .any ops (Post n K Q w0 ow0 bs0) fuel L a w := by
  have fin : ∀ (L : Array Bool) {w ow bs a}, L.size = ops.size → (∀ j, j < ops.size → L.getD j false = true) → Since K w0 ow0 bs0 w ow bs → Rel w ow bs (foldS (marks L its) s0).2 (frL nx L) → RelE w ow bs (foldS (marks L its) s0).2 (frL nx L) (foldS (marks L its) s0).1 a → a.tmps.size = n → a.defers = [] → Post n K Q w0 ow0 bs0 .normal a w := by
    intro L w ow bs a hLs hall hs hr hE hsz hdf
    have hm : marks L its = its.map fun x => (true, x) := by
      refine List.ext_getElem? (fun j => ?_)
      rw [marks_get, List.getElem?_map]
      cases hj : its[j]? with
      | none => rfl
      | some x => simp only [Option.map_some]; rw [hall j (by have := lt_of_getl hj; omega)]
    rw [hm] at hr hE
    have hsub : ∀ x, nx + 1024 * ops.size ≤ x → frL nx L x := by
      intro x hx
      refine ⟨by omega, fun i hi hmine => ?_⟩
      simp only [Mine] at hmine
      have : i < L.size := by
        rcases Nat.lt_or_ge i L.size with h | h
        · exact h
        · rw [Array.getD_eq_getD_getElem?, Array.getElem?_eq_none h] at hi; cases hi
      omega
    exact ⟨_, ow, bs, hQ, hs, hr.shrink hsub, hE.mono (Kept.refl _ _) (Quiet.shrink hsub), hsz, hdf, by show K ≤ nx + 1024 * ops.size; omega⟩
  have step : ∀ (L : Array Bool) (M : Act → World → Prop) {w ow bs a} (i : Nat), L.size = ops.size → Closed ops L → i ∈ Region.ready .any ops L → Since K w0 ow0 bs0 w ow bs → Rel w ow bs (foldS (marks L its) s0).2 (frL nx L) → RelE w ow bs (foldS (marks L its) s0).2 (frL nx L) (foldS (marks L its) s0).1 a → a.tmps.size = n → a.defers = [] →
      (∀ {w ow bs a}, Since K w0 ow0 bs0 w ow bs → Rel w ow bs (foldS (marks (L.setIfInBounds i true) its) s0).2 (frL nx (L.setIfInBounds i true)) → RelE w ow bs (foldS (marks (L.setIfInBounds i true) its) s0).2 (frL nx (L.setIfInBounds i true)) (foldS (marks (L.setIfInBounds i true) its) s0).1 a → a.tmps.size = n → a.defers = [] → M a w) →
      wpOp P ops (Post n K Q w0 ow0 bs0) i M a w := by
    intro L M w ow bs a i hs hc hi hsn hr hE hsz hdf hM
    rw [mem_ready] at hi
    obtain ⟨h0, o, hoi, hahead⟩ := hi
    have hlt : i < ops.size := (Array.getElem?_eq_some_iff.1 hoi).1
    have hL : L.getD i false = false := by
      rw [Array.getD_eq_getD_getElem?, Array.getElem?_eq_getElem (by omega)] at h0 ⊢
      simpa using h0
    obtain ⟨x, hx⟩ : ∃ x, its[i]? = some x := ⟨_, List.getElem?_eq_getElem (by omega)⟩
    obtain ⟨o', ho', hdst, hlooks, hcase⟩ := hit i x hx
    rw [hoi] at ho'
    simp only [Option.some.injEq] at ho'
    subst ho'
    have ha : Ahead ops L i := by
      intro o' ho' e hm hb
      rw [hoi] at ho'
      simp only [Option.some.injEq] at ho'
      subst ho'
      exact hahead e hm hb
    obtain ⟨se, sr⟩ := sees (s0 := s0) hc hp hx hL ha
    rw [marks_set (s0 := s0) hc hp hx hL ha (by omega)] at hM
    have hw := wantedV_congr (ops := ops) (o := o) (fun t ht => se t (by rw [hlooks]; exact ht))
    have hdb : ∀ (j : Nat) o' d, ops[j]? = some o' → o'.dst = some d → d < a.tmps.size := by
      intro j o' d hj hd'
      have hm : o' ∈ ops.toList := by
        have : ops.toList[j]? = some o' := by simpa using hj
        exact List.mem_of_getElem? this
      have := List.all_eq_true.1 hd o' hm
      simp only [hd', decide_eq_true_eq] at this
      rw [hsz]
      exact this
    have hsub : ∀ y, frL nx (L.setIfInBounds i true) y → minus (frL nx L) (nx + 1024 * i) y := by
      intro y hy
      refine ⟨⟨hy.1, fun j hj => hy.2 j (getD_set_true hj)⟩, hy.2 i ?_⟩
      rw [Array.getD_eq_getD_getElem?, Array.getElem?_setIfInBounds_self_of_lt (by omega)]; rfl
    unfold wpOp
    simp only [hoi]
    rcases hcase with ⟨hw1, hat⟩ | ⟨hw1, hv, hups⟩
    · rw [wantedV_run hE (hw.trans hw1) hdb]
      simp only [if_true]
      refine .inl (hat _ _ (fun t ht => se t (by rw [hlooks]; exact List.mem_append_left _ ht)) sr w ow bs (frL nx L) a hr hE (fun c hc' => ⟨by omega, fun j hj hm => ?_⟩) _ _ fun val w' ow' bs' h1 h2 h3 h4 => ?_)
      · have : j ≠ i := fun e => by rw [e, hL] at hj; cases hj
        simp only [Mine] at hm
        omega
      · have hE' := (hE.mono h1.kept h4).put h3 (fun d hd' => hdb i o d hoi hd')
        refine hM (hsn.trans ⟨h1, fun r hr => h4.base r (fun hx => by have := hx.1; omega)⟩) (h2.shrink hsub) ?_ (by rw [put_size]; exact hsz) (by rw [put_defers]; exact hdf)
        have := hE'.mono (Kept.refl _ _) (Quiet.shrink hsub)
        simpa only [It.app, hdst] using this
    · rw [wantedV_run hE (hw.trans hw1) hdb]
      simp only [Bool.false_eq_true, if_false]
      have hsub2 : ∀ y, frL nx (L.setIfInBounds i true) y → frL nx L y := fun y hy => (hsub y hy).1
      have hE' := hE.put (v := .tup []) (val := undef) (.tup (vs := #[]) rfl (fun k x hx => by simp at hx)) (fun d hd' => hdb i o d hoi hd')
      refine hM hsn ?_ ?_ (by rw [put_size]; exact hsz) (by rw [put_defers]; exact hdf)
      · simp only [It.app, hups, St.ups_nil]; exact hr.shrink hsub2
      · have := hE'.mono (Kept.refl _ _) (Quiet.shrink hsub2)
        simpa only [It.app, hups, hv, hdst, St.ups_nil] using this
  have closed : ∀ (L : Array Bool) (i : Nat), L.size = ops.size → Closed ops L → i ∈ Region.ready .any ops L → Closed ops (L.setIfInBounds i true) := by
    intro L i hs hc hi j o ho hj e hm hb
    rw [mem_ready] at hi
    obtain ⟨h0, oi, h1, h2⟩ := hi
    by_cases e1 : j = i
    · subst e1
      rw [h1] at ho
      simp only [Option.some.injEq] at ho
      subst ho
      exact getD_set_true (h2 e hm hb)
    · rw [getD_set_ne false (fun x => e1 x.symm)] at hj
      exact getD_set_true (hc j o ho hj e hm hb)
  intro fuel
  induction fuel with
  | zero =>
    intro L w ow bs a hs hc hu hsn hr hE hsz hdf
    have hall := all_listed (n := ops.size) (L := L) (by omega)
    refine ⟨?_, fin L hs hall hsn hr hE hsz hdf⟩
    apply List.eq_nil_iff_forall_not_mem.2
    intro j hj
    rw [mem_ready] at hj
    obtain ⟨h0, o, h1, _⟩ := hj
    have hlt : j < ops.size := (Array.getElem?_eq_some_iff.1 h1).1
    have := hall j hlt
    rw [Array.getD_eq_getD_getElem?, Array.getElem?_eq_getElem (by omega)] at this h0
    simp at this h0
    rw [this] at h0; cases h0
  | succ fuel ih =>
    intro L w ow bs a hs hc hu hsn hr hE hsz hdf
    refine ⟨fun h => fin L hs (ready_some he hs h) hsn hr hE hsz hdf, fun i hi => ?_⟩
    refine step L _ i hs hc hi hsn hr hE hsz hdf (fun h1 h2 h3 h4 h5 => ih (L.setIfInBounds i true) (by simpa using hs) (closed L i hs hc hi) ?_ h1 h2 h3 h4 h5)
    rw [mem_ready] at hi
    obtain ⟨h0, o, h1', _⟩ := hi
    have hlt : i < ops.size := (Array.getElem?_eq_some_iff.1 h1').1
    have hL : L.getD i false = false := by
      rw [Array.getD_eq_getD_getElem?, Array.getElem?_eq_getElem (by omega)] at h0 ⊢
      simpa using h0
    have := unl_set hlt hL (by omega)
    omega

end Go.VM

namespace Go.VM
theorem vw_region_draw {P : Program} {n K id : Nat} {ops : Array Oper} {Q : Exit → FS → Prop} {s : FS} (hm : P.follows .mixedOrders = true) (hd : dstOk n ops.toList = true) (he : edgesOk ops = true)
    (h : runD P ops s.nx 0 ops.toList s.env s.st [] (fun its env st => pairsOk (precs ops.toList []) its = true ∧ Q .normal ⟨env, st, s.nx + 1024 * ops.size⟩)) : VW P n K (.region id ops true) Q s := by
  intro w ow bs a ha
  refine wp_region_any hm ?_
  obtain ⟨its, h1, h2, h3, h4⟩ := runD_items (s0 := (s.env, s.st)) ops.toList 0 (acc := []) (by simp) (by simp) rfl rfl (fun j x hj => by simp at hj) h
  have hk : Kept w ow { w with drawn := w.drawn + 1 } ow := Kept.heap rfl
  have hs : Steady w ow { w with drawn := w.drawn + 1 } ow := ⟨hk, Nat.le_refl _, rfl, rfl, rfl⟩
  have hfl : ∀ j, (Array.replicate ops.size false).getD j false = false := by
    intro j
    rw [Array.getD_eq_getD_getElem?, Array.getElem?_replicate]
    split <;> rfl
  have hmk : foldS (marks (Array.replicate ops.size false) its) (s.env, s.st) = (s.env, s.st) := by
    have : marks (Array.replicate ops.size false) its = its.map fun x => (false, x) := by
      refine List.ext_getElem? (fun j => ?_)
      rw [marks_get, List.getElem?_map, hfl]
    rw [this, foldS_false]
  have hsub : ∀ x, frL s.nx (Array.replicate ops.size false) x → s.nx ≤ x := fun x hx => hx.1
  refine draw_sound (s0 := (s.env, s.st)) (w0 := w) (ow0 := ow) (bs0 := bs) hd he h3 h1 h2 h4 ha.old ops.size _ (by simp) ?_ ?_ ⟨hs, fun _ _ => rfl⟩ ?_ ?_ ha.size ha.defers
  · intro j o _ hj
    rw [hfl] at hj; cases hj
  · exact Nat.le_trans (List.length_filter_le _ _) (by simp)
  · rw [hmk]; exact (ha.rel.heap (w' := { w with drawn := w.drawn + 1 }) rfl).shrink hsub
  · rw [hmk]; exact (ha.env.mono hk (Quiet.refl _ _ _)).mono (Kept.refl _ _) (Quiet.shrink hsub)
end Go.VM
