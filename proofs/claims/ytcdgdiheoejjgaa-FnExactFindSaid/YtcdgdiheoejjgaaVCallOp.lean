/- A call is an operation: what its function does with trees, it does with the frame's roots. -/
import Derived.Test.YtcdgdiheoejjgaaVBack
namespace Go.VM
set_option linter.unusedSimpArgs false
set_option linter.unusedVariables false

theorem merge_get {st : St} : ∀ {ys : List (Option CT)} {xs : List VV} {cs : List CT}, mergeCs st ys xs = some cs → cs.length = ys.length ∧ ys.length = xs.length ∧
    ∀ (k : Nat) (c : CT), cs[k]? = some c → ys[k]? = some (some c) ∨ (ys[k]? = some none ∧ ∃ x, xs[k]? = some x ∧ lendC st x = some c)
  | [], [], cs, h => by
    simp only [mergeCs, Option.some.injEq] at h
    subst h
    exact ⟨rfl, rfl, fun k c hk => by simp at hk⟩
  | [], _ :: _, cs, h => by simp [mergeCs] at h
  | some c0 :: ys, [], cs, h => by simp [mergeCs] at h
  | none :: ys, [], cs, h => by simp [mergeCs] at h
  | some c0 :: ys, x :: xs, cs, h => by
    simp only [mergeCs, Option.map_eq_some_iff] at h
    obtain ⟨cs', h1, rfl⟩ := h
    obtain ⟨e1, e2, e3⟩ := merge_get h1
    refine ⟨by simp [e1], by simp [e2], fun k c hk => ?_⟩
    cases k with
    | zero => simp at hk; subst hk; exact .inl rfl
    | succ k => simpa using e3 k c (by simpa using hk)
  | none :: ys, x :: xs, cs, h => by
    simp only [mergeCs] at h
    cases hl : lendC st x with
    | none => rw [hl] at h; cases h
    | some c0 =>
      rw [hl] at h
      simp only [Option.map_eq_some_iff] at h
      obtain ⟨cs', h1, rfl⟩ := h
      obtain ⟨e1, e2, e3⟩ := merge_get h1
      refine ⟨by simp [e1], by simp [e2], fun k c hk => ?_⟩
      cases k with
      | zero => simp at hk; subst hk; exact .inr ⟨rfl, x, rfl, hl⟩
      | succ k => simpa using e3 k c (by simpa using hk)

theorem lendC_congr {w ow bs st fr} {x : VV} {v : Value} {s1 s2 : St} (rx : RelV w ow bs st fr x v) (h : ∀ r, ¬ fr r → s1 r = s2 r) : lendC s1 x = lendC s2 x := by
  cases rx with
  | al hf _ _ _ => simp only [lendC, seek, h _ hf]
  | ptr hf _ _ _ => simp only [lendC, seek, h _ hf]
  | _ => rfl

/-- A cell that was lent has no root. -/
theorem lendC_noroot {st : St} {x : VV} {c : CT} (h : lendC st x = some c) : (∀ sz es, c ≠ .v (.list true sz es)) ∧ ∀ xs, c ≠ .box xs := by
  cases x with
  | c x =>
    simp only [lendC, Option.some.injEq] at h
    subst h
    refine ⟨fun sz es e => ?_, fun xs e => by cases e⟩
    simp only [CT.v.injEq] at e
    cases x <;> simp at e
  | nils sz => simp only [lendC, Option.some.injEq] at h; subst h; exact ⟨fun _ _ => by simp, fun _ => by simp⟩
  | al r p m sz off len =>
    simp only [lendC] at h
    split at h
    · split at h
      · simp only [Option.some.injEq] at h; subst h; exact ⟨fun _ _ => by simp, fun _ => by simp⟩
      · cases h
    · cases h
  | ptr r p m i j =>
    simp only [lendC] at h
    split at h
    · split at h
      · simp only [Option.some.injEq] at h; subst h; exact ⟨fun _ _ => by simp, fun _ => by simp⟩
      · cases h
    · cases h
  | rop cs => simp only [lendC, Option.some.injEq] at h; subst h; exact ⟨fun _ _ => by simp, fun _ => by simp⟩
  | fn f caps => simp only [lendC, Option.some.injEq] at h; subst h; exact ⟨fun _ _ => by simp, fun _ => by simp⟩
  | _ => cases h

/-- Memory as the callee sees it. -/
theorem enter_rel {w ow bs st} {fr : Nat → Prop} {fid n : Nat} {owB bsB stB} {ys : List (Option CT)} {xs : List VV} {vs : List Value} {cs : List CT} {u : Ups} (hroom : Room fr fid) (hn : n ≤ 1024) (hyn : ys.length = n)
    (hB : Rel w owB bsB stB (fun x => fr x ∧ ¬ (fid ≤ x ∧ x < fid + n))) (hkB : Kept w ow w owB) (hqB : Quiet bs st fr bsB stB (fun x => fr x ∧ ¬ (fid ≤ x ∧ x < fid + n))) (agree : ∀ r, ¬ fr r → stB r = (st.ups u) r)
    (hold : ∀ (k : Nat) (y : Option CT) (v : Value), ys[k]? = some y → vs[k]? = some v → HoldsA w owB bsB stB (fun x => fr x ∧ ¬ (fid ≤ x ∧ x < fid + n)) (fid + k) y v) (hlen : xs.length = vs.length)
    (hr : ∀ (k : Nat) (x : VV) (v : Value), xs[k]? = some x → vs[k]? = some v → RelV w ow bs st fr x v) (hm : mergeCs (st.ups u) ys xs = some cs) :
    Rel w (owC fid n owB) (bsC fid bsB) (st0.ups (cups 0 cs)) (fun x => cs.length ≤ x) ∧ ∀ (k : Nat) (c : CT) (v : Value), cs[k]? = some c → vs[k]? = some v → RelV w (owC fid n owB) (bsC fid bsB) (st0.ups (cups 0 cs)) (fun x => cs.length ≤ x) (c.vv (0 + k)) v := by
  obtain ⟨m1, m2, m3⟩ := merge_get hm
  have hkC : Kept w owB w (owC fid n owB) := fun b hb _ => ⟨rfl, by simp [owC, hb]⟩
  have mine : ∀ x, fid ≤ x ∧ x < fid + 1024 → fr x := fun x hx => by have := hroom (x - fid) (by omega); rwa [show fid + (x - fid) = x from by omega] at this
  have moved : ∀ k, k < n → Moved w owB bsB (fid + k, []) w (owC fid n owB) (bsC fid bsB) (k, []) := by
    intro k hk
    refine ⟨fun b p hb => ⟨rfl, ?_⟩, fun p => rfl⟩
    simp only [List.nil_append] at hb ⊢
    simp only [owC, hb]
    rw [if_pos (by omega), show fid + k - fid = k from by omega]
  have rooted : ∀ r R, (st0.ups (cups 0 cs)) r = some R → r < n ∧ stB (fid + r) = some R := by
    intro r R hR
    rcases cups_get hR with ⟨k, c, hk, rfl, hR'⟩ | hR
    · have hkn : k < n := by have := lt_of_getl hk; omega
      simp only [Nat.zero_add]
      rcases m3 k c hk with hy | ⟨_, x, _, hl⟩
      · have hv : vs[k]? = some (vs[k]'(by omega)) := List.getElem?_eq_getElem (by omega)
        have := (hold k _ _ hy hv c rfl).2
        rcases hR' with ⟨sz, es, rfl, rfl⟩ | ⟨xs, rfl, rfl⟩
        · exact ⟨hkn, this⟩
        · exact ⟨hkn, this⟩
      · obtain ⟨q1, q2⟩ := lendC_noroot hl
        rcases hR' with ⟨sz, es, e, _⟩ | ⟨xs, e, _⟩
        · exact absurd e (q1 sz es)
        · exact absurd e (q2 xs)
    · cases hR
  refine ⟨⟨fun r R hR => ?_, fun r R hR hbox => ?_, fun b ℓ hb => ?_, fun r hr => ?_⟩, fun k c v hk hv => ?_⟩
  · obtain ⟨h1, h2⟩ := rooted r R hR
    exact (hB.root _ R h2).move hkC (moved r h1)
  · obtain ⟨h1, h2⟩ := rooted r R hR
    exact hB.box _ R h2 hbox
  · simp only [owC] at hb
    split at hb
    · rename_i r q hq
      split at hb
      · simp only [Option.some.injEq] at hb
        subst hb
        exact ⟨by show ¬ cs.length ≤ r - fid; omega, (hB.own b _ hq).2⟩
      · cases hb
    · cases hb
  · cases hx : (st0.ups (cups 0 cs)) r with
    | none => rfl
    | some R =>
      have h1 := (rooted r R hx).1
      have h2 : cs.length ≤ r := hr
      omega
  · have hkn : k < n := by have := lt_of_getl hk; omega
    rw [Nat.zero_add]
    rcases m3 k c hk with hy | ⟨_, x, hx, hl⟩
    · have := (hold k _ _ hy hv c rfl).1
      exact shiftC this rfl (by show ¬ cs.length ≤ k; omega) (.inl hkC)
    · have rx := hr k x v hx hv
      have rxB : RelV w owB bsB stB (fun x => fr x ∧ ¬ (fid ≤ x ∧ x < fid + n)) x v := rx.mono hkB hqB
      rw [lendC_congr rx (fun r h => (agree r h).symm)] at hl
      have free : ∀ b r q, owB b = some (r, q) → ¬ fr r → owC fid n owB b = none := by
        intro b r q hb hf
        simp only [owC, hb]
        rw [if_neg (fun hx => hf (mine r ⟨hx.1, by omega⟩))]
      refine lendC_rel hB rxB (fun b hb => by simp [owC, hb]) (fun b r q R hb _ => ⟨fun p m i j e => ?_, fun p m sz off len e => ?_⟩) hl
      · subst e
        cases rx with | ptr hf _ _ _ => exact free b r q hb hf
      · subst e
        cases rx with | al hf _ _ _ => exact free b r q hb hf

theorem flat_modes : ∀ {ms : List Md} {xs : List VV}, ms.length = xs.length → ((ms.zip xs).flatMap fun p => p.2.cells.map fun y => (p.1, y)).map (·.2) = xs.flatMap VV.cells
  | [], [], _ => rfl
  | m :: ms, x :: xs, h => by
    simp only [List.zip_cons_cons, List.flatMap_cons, List.map_append, List.map_map]
    rw [flat_modes (by simpa using h)]
    congr 1
    exact List.map_id' _

theorem call_ok {P : Program} {fid : Nat} {o : Oper} {env : Nat → VV} {st : St} {c : Call} {g : Operand} {f : FuncId} {fn : Func} {caps : List (List T)} {ts : List TypeId} {ms : List Md} {xs : List VV} {ys : List (Option CT)} {u : Ups} {bk : List (Option Nat)} {cs : List CT}
    {args outs : List RT} {B : Bk} {bu : Ups} (hop : o.op = .call c) (hcal : c.callee = .value g) (hg : ev P env 0 g = .fn f caps) (hf : P.funcs[f]? = some fn) (hbody : fn.body.isNone = false) (hname : (fn.name == "runtime.NumGoroutine") = false)
    (hxs : xs = (c.args.toList.zip ts).map (fun p => ev P env p.2 p.1) ++ caps.map VV.rop) (hts : ts.length = c.args.size) (hms : ms.length = xs.length)
    (hhand : handCs st ((ms.zip xs).flatMap fun p => p.2.cells.map fun y => (p.1, y)) = some (ys, u, bk)) (hmerge : mergeCs (st.ups u) ys (xs.flatMap VV.cells) = some cs)
    (hshape : shapes xs args = true) (hcs : rcells args = cs) (hB : ∀ b ∈ B, bk[b.2.1]? = some (some b.1)) (hn1 : (B.map (·.1)).Nodup) (hn2 : (B.map (·.2.1)).Nodup) (hbu : backU st B = some bu)
    (hruns : Runs P f args outs (B.map fun b => (b.2.1, b.2.2))) (hc1 : (rcells outs).all CT.clean = true) (hc2 : B.all (fun b => cleanRs b.2.2.rows) = true) (hm : (rcells outs).length ≤ 1024) (hn : cs.length ≤ 1024) :
    OpOk P fid o env st ⟨outL (rvv fid outs), u ++ bu ++ cups fid (rcells outs)⟩ := by
  intro w ow bs fr a hr he hroom next Q hk
  have hgv := ev_rel (P := P) he 0 g
  rw [hg] at hgv
  obtain ⟨vs, hgeq, hvl, hvr⟩ : ∃ vs : Array Value, a.eval g = .func (.func f) #[] vs ∧ caps.length = vs.size ∧ ∀ (k : Nat) (cs : List T), caps[k]? = some cs → RelV w ow bs st fr (.rop cs) (vs.getD k undef) := by
    generalize a.eval g = z at hgv
    cases hgv with | fn hl hh => exact ⟨_, rfl, hl, hh⟩
  have hrun : (execOp a.eval o).run P w = .ok (.enter f (c.args.map a.eval ++ vs)) w := by
    have hname' : fn.name ≠ "runtime.NumGoroutine" := by simpa using hname
    simp [execOp, hop, resolve, hcal, hgeq, Deferred.ofValue, invoke, callFunc, hf, hname', hbody]
    intro hb
    rw [hb] at hbody
    cases hbody
  -- the values
  have hxr : xs.length = (c.args.map a.eval ++ vs).toList.length ∧ ∀ (k : Nat) (x : VV) (v : Value), xs[k]? = some x → (c.args.map a.eval ++ vs).toList[k]? = some v → RelV w ow bs st fr x v := by
    have hl1 : ((c.args.toList.zip ts).map (fun p => ev P env p.2 p.1)).length = c.args.size := by simp [hts]
    refine ⟨by rw [hxs]; simp [hts, hvl], fun k x v hx hv => ?_⟩
    rw [hxs] at hx
    simp only [Array.toList_append, Array.toList_map] at hv
    by_cases hkl : k < c.args.size
    · rw [List.getElem?_append_left (by omega)] at hx
      rw [List.getElem?_append_left (by simpa using hkl)] at hv
      rw [List.getElem?_map] at hx hv
      obtain ⟨p, h1, rfl⟩ := Option.map_eq_some_iff.1 hx
      obtain ⟨y, h2, rfl⟩ := Option.map_eq_some_iff.1 hv
      rw [List.getElem?_zip_eq_some] at h1
      rw [h1.1] at h2
      simp only [Option.some.injEq] at h2
      subst h2
      exact ev_rel he _ _
    · rw [List.getElem?_append_right (by omega)] at hx
      rw [List.getElem?_append_right (by simpa using hkl)] at hv
      rw [hl1, List.getElem?_map] at hx
      obtain ⟨cs', h1, rfl⟩ := Option.map_eq_some_iff.1 hx
      have := hvr _ _ h1
      simp only [List.length_map, Array.length_toList, Array.getElem?_toList] at hv
      rw [Array.getD_eq_getD_getElem?, hv] at this
      exact this
  obtain ⟨hxl, hxr⟩ := hxr
  obtain ⟨f1, f2⟩ := flatV_rel hxl hxr
  have hL := flat_modes hms
  generalize hLdef : ((ms.zip xs).flatMap fun p => p.2.cells.map fun y => (p.1, y)) = L at hhand hL
  have hLl : L.length = (xs.flatMap VV.cells).length := by rw [← hL]; simp
  obtain ⟨m1, m2, m3⟩ := merge_get hmerge
  have hLn : L.length ≤ 1024 := by omega
  obtain ⟨owB, bsB, stB, g1, g2, g3, g4, g5, g6, g7, g8, g9, g10⟩ := handCs_sound L (flatV xs (c.args.map a.eval ++ vs).toList) ys u bk fid hr (fun k hk => hroom k (by omega)) (fun _ _ => rfl) (Quiet.refl _ _ _) (Kept.refl _ _) hhand (by omega)
    (fun k x v hx hv => f2 k x.2 v (by rw [← hL, List.getElem?_map, hx]; rfl) hv)
  obtain ⟨e1, e2⟩ := enter_rel (xs := xs.flatMap VV.cells) (vs := flatV xs (c.args.map a.eval ++ vs).toList) hroom hLn g5 g1 g2 g3 g4 g6 f1 f2 hmerge
  have hin : Each (RelV w (owC fid L.length owB) (bsC fid bsB) (st0.ups (cups 0 (rcells args))) (fun x => (rcells args).length ≤ x)) (rvv 0 args) (c.args.map a.eval ++ vs) := by
    rw [hcs]
    obtain ⟨o1, o2⟩ := out_rel (b := 0) hshape hxl hxr (fun k c' v hc hv => e2 k c' v (by rw [← hcs]; exact hc) hv)
    refine ⟨by simpa using o1, fun k x hx => ?_⟩
    have hlt := lt_of_getl hx
    have hv : (c.args.map a.eval ++ vs).toList[k]? = some ((c.args.map a.eval ++ vs).getD k undef) := by
      rw [Array.getElem?_toList, Array.getD_eq_getD_getElem?]
      have o1' : (rvv 0 args).length = (c.args.map a.eval ++ vs).size := by rw [o1]; exact Array.length_toList
      have hlt' : k < (c.args.map a.eval ++ vs).size := by omega
      rw [Array.getElem?_eq_getElem hlt']; rfl
    exact o2 k x _ hx hv
  have hrel0 : Rel w (owC fid L.length owB) (bsC fid bsB) (st0.ups (cups 0 (rcells args))) (fun x => (rcells args).length ≤ x) := by rw [hcs]; exact e1
  have hcalls := hruns w _ _ _ hrel0 hin
  unfold Oper.wp
  rw [hrun, Oper.upon_enter]
  refine hcalls.mono ?_
  rintro e w' ⟨v, ow', bs', rfl, hs, h', hv, hb⟩
  have hbase : ∀ b ∈ B, ¬ fr b.1 ∧ bsB (fid + b.2.1, []) = bs (b.1, []) ∧ b.2.1 < L.length := by
    intro b hb'
    obtain ⟨q1, q2, q3⟩ := g9 _ _ (hB b hb')
    exact ⟨q1, q2, by have := lt_of_getl (hB b hb'); omega⟩
  obtain ⟨r1, r2, r3⟩ := back_rel (outs := outs) hr hroom hLn g1 g2 g3 g4 g8 hs h' (fun b hb' => hb (b.2.1, b.2.2) (List.mem_map.2 ⟨b, hb', rfl⟩)) hbase hn1 hn2 hbu hc1 hc2 hm
  refine hk v w' _ _ r2 r1 ?_ r3
  refine shiftOut hv (fun k c' z hc hz => ?_)
  have hkn : k < 1024 := by have := lt_of_getl hc; omega
  refine shiftC hz ?_ (fun x => x.2 ⟨by omega, by omega⟩) (.inr (List.all_eq_true.1 hc1 c' (List.mem_of_getElem? hc)))
  simp only [bsD]
  rw [if_pos (by omega), show fid + k - fid = k from by omega]

end Go.VM
