/- Back from a call: memory as the caller sees it. -/
import Derived.Test.YtcdgdiheoejjgaaVShift
namespace Go.VM
set_option linter.unusedSimpArgs false
set_option linter.unusedVariables false

/-- What is given back: the caller's root, the callee's number, the tree. -/
abbrev Bk := List (Nat × Nat × Root)
def bkFind (B : Bk) (k : Nat) : Option Nat := (B.find? fun b => b.2.1 == k).map (·.1)
def rtFind (B : Bk) (r : Nat) : Option Nat := (B.find? fun b => b.1 == r).map (·.2.1)

def owC (fid n : Nat) (owB : Own) : Own := fun b => match owB b with | some (r, q) => if fid ≤ r ∧ r < fid + n then some (r - fid, q) else none | none => none
def bsC (fid : Nat) (bsB : Base) : Base := fun ℓ => bsB (fid + ℓ.1, ℓ.2)

def owD (fid n : Nat) (B : Bk) (owB ow' : Own) : Own := fun b =>
  match ow' b with
  | some (r, q) => if RB ≤ r then (if r < RB + 1024 then some (fid + (r - RB), q) else none) else (match bkFind B r with | some r0 => some (r0, q) | none => none)
  | none => match owB b with | some ℓ => if fid ≤ ℓ.1 ∧ ℓ.1 < fid + n then none else some ℓ | none => none

def bsD (fid : Nat) (B : Bk) (bs' bsB : Base) : Base := fun ℓ =>
  if fid ≤ ℓ.1 ∧ ℓ.1 < fid + 1024 then bs' (RB + (ℓ.1 - fid), ℓ.2) else match rtFind B ℓ.1 with | some k => bs' (k, ℓ.2) | none => bsB ℓ

def backU (st : St) : Bk → Option Ups
  | [] => some []
  | b :: l => match st b.1 with | some R0 => (backU st l).map ((b.1, some { b.2.2 with log := R0.log ++ [[]] }) :: ·) | none => none

theorem backU_get {st st1 : St} : ∀ {B : Bk} {u : Ups} {r : Nat} {R : Root}, backU st B = some u → (st1.ups u) r = some R →
    (∃ b ∈ B, b.1 = r ∧ ∃ R0, st r = some R0 ∧ R = { b.2.2 with log := R0.log ++ [[]] }) ∨ (st1 r = some R ∧ ∀ b ∈ B, b.1 ≠ r)
  | [], u, r, R, h, hr => by
    simp only [backU, Option.some.injEq] at h
    subst h
    exact .inr ⟨hr, fun b hb => by cases hb⟩
  | b :: B, u, r, R, h, hr => by
    simp only [backU] at h
    split at h
    · rename_i R0 h0
      rw [Option.map_eq_some_iff] at h
      obtain ⟨u', h1, rfl⟩ := h
      simp only [St.ups_cons] at hr
      rcases backU_get h1 hr with ⟨b', hb, e1, e2⟩ | ⟨e1, e2⟩
      · exact .inl ⟨b', List.mem_cons_of_mem _ hb, e1, e2⟩
      · by_cases e : r = b.1
        · subst e
          simp only [St.put_eq, Option.some.injEq] at e1
          exact .inl ⟨b, by simp, rfl, R0, h0, e1.symm⟩
        · rw [St.put_ne _ _ e] at e1
          refine .inr ⟨e1, fun b' hb => ?_⟩
          rcases List.mem_cons.1 hb with rfl | hb
          · exact fun x => e x.symm
          · exact e2 b' hb
    · cases h

theorem backU_mem {st : St} : ∀ {B : Bk} {u : Ups}, backU st B = some u → ∀ r R', (r, R') ∈ u → ∃ b ∈ B, b.1 = r
  | [], u, h, r, R', hm => by
    simp only [backU, Option.some.injEq] at h
    subst h; cases hm
  | b :: B, u, h, r, R', hm => by
    simp only [backU] at h
    split at h
    · rw [Option.map_eq_some_iff] at h
      obtain ⟨u', h1, rfl⟩ := h
      rcases List.mem_cons.1 hm with hm | hm
      · simp only [Prod.mk.injEq] at hm; exact ⟨b, by simp, hm.1.symm⟩
      · obtain ⟨b', h2, h3⟩ := backU_mem h1 r R' hm; exact ⟨b', List.mem_cons_of_mem _ h2, h3⟩
    · cases h

theorem rtFind_some {B : Bk} (hn : (B.map (·.1)).Nodup) {b : Nat × Nat × Root} (hb : b ∈ B) : rtFind B b.1 = some b.2.1 := by
  induction B with
  | nil => cases hb
  | cons b0 B ih =>
    simp only [List.map_cons, List.nodup_cons] at hn
    simp only [rtFind, List.find?_cons]
    by_cases e : b0.1 = b.1
    · rcases List.mem_cons.1 hb with rfl | hb'
      · simp
      · have hm : b0.1 ∈ B.map (·.1) := by rw [e]; exact List.mem_map.2 ⟨b, hb', rfl⟩
        exact absurd hm hn.1
    · have e' : (b0.1 == b.1) = false := by simpa using e
      rcases List.mem_cons.1 hb with rfl | hb'
      · exact absurd rfl e
      · have := ih hn.2 hb'
        simp only [rtFind] at this
        simpa [e'] using this

theorem rtFind_none {B : Bk} {r : Nat} (h : ∀ b ∈ B, b.1 ≠ r) : rtFind B r = none := by
  simp only [rtFind, Option.map_eq_none_iff, List.find?_eq_none]
  intro b hb
  simpa using h b hb

theorem rtFind_mem {B : Bk} {r k : Nat} (h : rtFind B r = some k) : ∃ b ∈ B, b.1 = r ∧ b.2.1 = k := by
  simp only [rtFind, Option.map_eq_some_iff] at h
  obtain ⟨b, h1, h2⟩ := h
  exact ⟨b, List.mem_of_find?_eq_some h1, by simpa using List.find?_some h1, h2⟩
theorem bkFind_mem {B : Bk} {r k : Nat} (h : bkFind B k = some r) : ∃ b ∈ B, b.1 = r ∧ b.2.1 = k := by
  simp only [bkFind, Option.map_eq_some_iff] at h
  obtain ⟨b, h1, h2⟩ := h
  exact ⟨b, List.mem_of_find?_eq_some h1, h2, by simpa using List.find?_some h1⟩
theorem bkFind_some {B : Bk} (hn : (B.map (·.2.1)).Nodup) {b : Nat × Nat × Root} (hb : b ∈ B) : bkFind B b.2.1 = some b.1 := by
  induction B with
  | nil => cases hb
  | cons b0 B ih =>
    simp only [List.map_cons, List.nodup_cons] at hn
    simp only [bkFind, List.find?_cons]
    by_cases e : b0.2.1 = b.2.1
    · rcases List.mem_cons.1 hb with rfl | hb'
      · simp
      · have hm : b0.2.1 ∈ B.map (·.2.1) := by rw [e]; exact List.mem_map.2 ⟨b, hb', rfl⟩
        exact absurd hm hn.1
    · have e' : (b0.2.1 == b.2.1) = false := by simpa using e
      rcases List.mem_cons.1 hb with rfl | hb'
      · exact absurd rfl e
      · have := ih hn.2 hb'
        simp only [bkFind] at this
        simpa [e'] using this

theorem backs_set {st : St} : ∀ {B : Bk}, (B.map (·.2.1)).Nodup → ∀ b ∈ B, (st.ups ((B.map fun b => (b.2.1, b.2.2)).map fun p => (p.1, some p.2))) b.2.1 = some b.2.2
  | [], _, b, hb => by cases hb
  | b0 :: B, hn, b, hb => by
    simp only [List.map_cons, List.nodup_cons] at hn
    simp only [List.map_cons, St.ups_cons]
    rcases List.mem_cons.1 hb with rfl | hb'
    · rw [ups_other (fun r R' hm e => ?_)]
      · simp
      · simp only [List.mem_map] at hm
        obtain ⟨p, ⟨b1, h1, rfl⟩, h2⟩ := hm
        simp only [Prod.mk.injEq] at h2
        exact hn.1 (List.mem_map.2 ⟨b1, h1, by rw [h2.1]; exact e⟩)
    · exact backs_set hn.2 b hb'

/-- Memory behind the call. -/
theorem back_rel {w w' : World} {ow bs st} {fr : Nat → Prop} {fid n : Nat} {owB bsB stB} {ow' bs'} {outs : List RT} {B : Bk} {u bu : Ups} (h0 : Rel w ow bs st fr) (hroom : Room fr fid) (hn : n ≤ 1024)
    (hB : Rel w owB bsB stB (fun x => fr x ∧ ¬ (fid ≤ x ∧ x < fid + n))) (hkB : Kept w ow w owB) (hqB : Quiet bs st fr bsB stB (fun x => fr x ∧ ¬ (fid ≤ x ∧ x < fid + n))) (agree : ∀ r, ¬ fr r → stB r = (st.ups u) r) (hu : ∀ r R', (r, R') ∈ u → ¬ fr r)
    (hs : Steady w (owC fid n owB) w' ow') (h' : Rel w' ow' bs' (stOut outs (B.map fun b => (b.2.1, b.2.2))) (fun _ => False)) (hback : ∀ b ∈ B, bs' (b.2.1, []) = bsB (fid + b.2.1, []))
    (hbase : ∀ b ∈ B, ¬ fr b.1 ∧ bsB (fid + b.2.1, []) = bs (b.1, []) ∧ b.2.1 < n) (hn1 : (B.map (·.1)).Nodup) (hn2 : (B.map (·.2.1)).Nodup) (hbu : backU st B = some bu)
    (hc1 : (rcells outs).all CT.clean = true) (hc2 : B.all (fun b => cleanRs b.2.2.rows) = true) (hm : (rcells outs).length ≤ 1024) :
    Rel w' (owD fid n B owB ow') (bsD fid B bs' bsB) (st.ups (u ++ bu ++ cups fid (rcells outs))) (minus fr fid) ∧ Steady w ow w' (owD fid n B owB ow') ∧
    Quiet bs st fr (bsD fid B bs' bsB) (st.ups (u ++ bu ++ cups fid (rcells outs))) (minus fr fid) := by
  have mine : ∀ x, fid ≤ x ∧ x < fid + 1024 → fr x := fun x hx => by have := hroom (x - fid) (by omega); rwa [show fid + (x - fid) = x from by omega] at this
  have hn' : ∀ b ∈ B, b.2.1 < RB := fun b hb => by have := (hbase b hb).2.2; simp only [RB]; omega
  -- what stands at a root now
  have look : ∀ r R, (st.ups (u ++ bu ++ cups fid (rcells outs))) r = some R →
      (∃ k c, (rcells outs)[k]? = some c ∧ r = fid + k ∧ ((∃ sz es, c = .v (.list true sz es) ∧ R = ⟨false, sz, es, []⟩) ∨ (∃ xs, c = .box xs ∧ R = ⟨true, xs.length, [xs], []⟩))) ∨
      (∃ b ∈ B, b.1 = r ∧ ∃ R0, st r = some R0 ∧ R = { b.2.2 with log := R0.log ++ [[]] }) ∨ (¬ fr r ∧ stB r = some R ∧ ∀ b ∈ B, b.1 ≠ r) := by
    intro r R hr
    simp only [St.ups_append] at hr
    rcases cups_get hr with h | hr
    · exact .inl h
    · rcases backU_get hbu hr with h | ⟨h1, h2⟩
      · exact .inr (.inl h)
      · have hf : ¬ fr r := by
          intro hf
          rw [ups_other (fun r' R' hm e => hu r' R' hm (by rw [e]; exact hf)), h0.free r hf] at h1
          cases h1
        exact .inr (.inr ⟨hf, by rw [agree r hf]; exact h1, h2⟩)
  have hk' : Kept w owB w' (owD fid n B owB ow') := by
    intro b hb hlt
    have hC : owC fid n owB b = none := by simp [owC, hb]
    obtain ⟨e1, e2⟩ := hs.kept b hC hlt
    exact ⟨e1, by simp [owD, e2, hb]⟩
  have outAt : ∀ (k : Nat) (c : CT), (rcells outs)[k]? = some c → k < 1024 ∧ c.clean = true := fun k c hk => ⟨by have := lt_of_getl hk; omega, List.all_eq_true.1 hc1 c (List.mem_of_getElem? hk)⟩
  have stOutAt : ∀ (k : Nat) (c : CT), (rcells outs)[k]? = some c → (∀ sz es, c = .v (.list true sz es) → stOut outs (B.map fun b => (b.2.1, b.2.2)) (RB + k) = some ⟨false, sz, es, []⟩) ∧ (∀ xs, c = .box xs → stOut outs (B.map fun b => (b.2.1, b.2.2)) (RB + k) = some ⟨true, xs.length, [xs], []⟩) := by
    intro k c hk
    have hne : ∀ st : St, (st.ups ((B.map fun b => (b.2.1, b.2.2)).map fun p => (p.1, some p.2))) (RB + k) = st (RB + k) := by
      intro st
      refine ups_other (fun r R' hm e => ?_)
      simp only [List.mem_map] at hm
      obtain ⟨p, ⟨b1, h1, rfl⟩, h2⟩ := hm
      simp only [Prod.mk.injEq] at h2
      have := hn' b1 h1
      omega
    obtain ⟨q1, q2⟩ := cups_set (st := st0) (b := RB) hk
    exact ⟨fun sz es e => by simp only [stOut, St.ups_append]; rw [hne]; exact q1 sz es e, fun xs e => by simp only [stOut, St.ups_append]; rw [hne]; exact q2 xs e⟩
  have movedOut : ∀ k, k < 1024 → Moved w' ow' bs' (RB + k, []) w' (owD fid n B owB ow') (bsD fid B bs' bsB) (fid + k, []) := by
    intro k hk
    refine ⟨fun b p hb => ⟨rfl, ?_⟩, fun p => ?_⟩
    · simp only [List.nil_append] at hb ⊢
      simp only [owD, hb]
      rw [if_pos (by omega), if_pos (by omega), show RB + k - RB = k from by omega]
    · simp only [List.nil_append, bsD]
      rw [if_pos (by omega), show fid + k - fid = k from by omega]
  have notMine : ∀ r, ¬ fr r → ¬ (fid ≤ r ∧ r < fid + 1024) := fun r hr hx => hr (mine r hx)
  have baseOld : ∀ r, ¬ fr r → (∀ b ∈ B, b.1 ≠ r) → ∀ p, bsD fid B bs' bsB (r, p) = bsB (r, p) := by
    intro r hr hb p
    simp only [bsD]
    rw [if_neg (notMine r hr), rtFind_none hb]
  have baseBack : ∀ b ∈ B, ∀ p, bsD fid B bs' bsB (b.1, p) = bs' (b.2.1, p) := by
    intro b hb p
    simp only [bsD]
    rw [if_neg (notMine _ (hbase b hb).1), rtFind_some hn1 hb]
  refine ⟨⟨fun r R hr => ?_, fun r R hr hbox => ?_, fun b ℓ hb => ?_, fun r hr => ?_⟩, ⟨fun b hb hlt => ?_, hs.size, hs.os, hs.tape, hs.output⟩, ?_⟩
  · rcases look r R hr with ⟨k, c, hk, rfl, hR⟩ | ⟨b, hb, rfl, R0, e1, rfl⟩ | ⟨hf, e1, e2⟩
    · obtain ⟨k1, k2⟩ := outAt k c hk
      obtain ⟨s1, s2⟩ := stOutAt k c hk
      have hb : bsD fid B bs' bsB (fid + k, []) = bs' (RB + k, []) := by simpa using (movedOut k k1).2 []
      rw [hb]
      rcases hR with ⟨sz, es, rfl, rfl⟩ | ⟨xs, rfl, rfl⟩
      · exact (h'.root _ _ (s1 sz es rfl)).moveClean (by simpa [CT.clean, T.clean] using k2) (movedOut k k1)
      · exact (h'.root _ _ (s2 xs rfl)).moveClean (by simpa [CT.clean, T.clean, cleanRs] using k2) (movedOut k k1)
    · have hst : stOut outs (B.map fun b => (b.2.1, b.2.2)) b.2.1 = some b.2.2 := by
        simp only [stOut, St.ups_append]; exact backs_set hn2 b hb
      rw [baseBack b hb]
      refine (h'.root _ _ hst).moveClean (by simpa [T.clean] using List.all_eq_true.1 hc2 b hb) ⟨fun x p hx => ⟨rfl, ?_⟩, fun p => by simpa using baseBack b hb p⟩
      simp only [List.nil_append] at hx ⊢
      simp only [owD, hx]
      rw [if_neg (by have := hn' b hb; omega), bkFind_some hn2 hb]
    · rw [baseOld r hf e2]
      refine (hB.root r R e1).move hk' ⟨fun b p hb => ?_, fun p => by simpa using baseOld r hf e2 p⟩
      simp only [List.nil_append] at hb ⊢
      have hnr : ¬ (fid ≤ r ∧ r < fid + n) := fun hx => notMine r hf ⟨hx.1, by omega⟩
      have hC : owC fid n owB b = none := by simp only [owC, hb]; rw [if_neg hnr]
      obtain ⟨q1, q2⟩ := hs.kept b hC (hB.own b _ hb).2
      refine ⟨q1, ?_⟩
      simp only [owD, q2, hb]
      rw [if_neg hnr]
  · rcases look r R hr with ⟨k, c, hk, rfl, hR⟩ | ⟨b, hb, rfl, R0, e1, rfl⟩ | ⟨hf, e1, e2⟩
    · obtain ⟨k1, k2⟩ := outAt k c hk
      obtain ⟨s1, s2⟩ := stOutAt k c hk
      have hb : bsD fid B bs' bsB (fid + k, []) = bs' (RB + k, []) := by simpa using (movedOut k k1).2 []
      rw [hb]
      rcases hR with ⟨sz, es, rfl, rfl⟩ | ⟨xs, rfl, rfl⟩
      · cases hbox
      · exact h'.box _ _ (s2 xs rfl) rfl
    · have hst : stOut outs (B.map fun b => (b.2.1, b.2.2)) b.2.1 = some b.2.2 := by
        simp only [stOut, St.ups_append]; exact backs_set hn2 b hb
      rw [baseBack b hb]
      exact h'.box _ _ hst hbox
    · rw [baseOld r hf e2]
      exact hB.box r R e1 hbox
  · simp only [owD] at hb
    split at hb
    · rename_i r q hq
      have hsz := (h'.own b _ hq).2
      split at hb
      · split at hb
        · simp only [Option.some.injEq] at hb
          subst hb
          exact ⟨fun x => x.2 ⟨by show fid ≤ fid + (r - RB); omega, by show fid + (r - RB) < fid + 1024; omega⟩, hsz⟩
        · cases hb
      · split at hb
        · rename_i r0 hr0
          simp only [Option.some.injEq] at hb
          subst hb
          obtain ⟨b', h1, rfl, h3⟩ := bkFind_mem hr0
          exact ⟨fun x => (hbase b' h1).1 x.1, hsz⟩
        · cases hb
    · split at hb
      · rename_i ℓ' hℓ
        split at hb
        · cases hb
        · rename_i hnr
          simp only [Option.some.injEq] at hb
          subst hb
          have := hB.own b _ hℓ
          exact ⟨fun x => this.1 ⟨x.1, hnr⟩, Nat.lt_of_lt_of_le this.2 hs.size⟩
      · cases hb
  · cases hx : (st.ups (u ++ bu ++ cups fid (rcells outs))) r with
    | none => rfl
    | some R =>
      rcases look r R hx with ⟨k, c, hk, rfl, hR⟩ | ⟨b, hb, rfl, _⟩ | ⟨hf, _⟩
      · exact absurd ⟨by omega, by have := (outAt k c hk).1; omega⟩ hr.2
      · exact absurd hr.1 (hbase b hb).1
      · exact absurd hr.1 hf
  · have e1 := hkB b hb hlt
    have e2 := hk' b e1.2 hlt
    exact ⟨e2.1.trans rfl, e2.2⟩
  · refine ⟨fun r hr => ?_, fun r p m hr hp hm' hst => ?_, fun r R' hr hR' => ?_, fun r hr => hr.1⟩
    · by_cases hb : ∃ b ∈ B, b.1 = r
      · obtain ⟨b, hb, rfl⟩ := hb
        rw [baseBack b hb, hback b hb, (hbase b hb).2.1]
      · rw [baseOld r hr (fun b hb' e => hb ⟨b, hb', e⟩), hqB.base r hr]
    · rcases hst with h | ⟨R, hR, hfresh⟩
      · exact absurd h hp
      · rcases look r R hR with ⟨k, c, hk, rfl, _⟩ | ⟨b, hb, rfl, R0, e1, rfl⟩ | ⟨hf, e1, e2⟩
        · exact absurd (mine _ ⟨by omega, by have := (outAt k c hk).1; omega⟩) hr
        · exfalso
          have hle := hm' R0 e1
          simp only [fresh, Bool.or_eq_true] at hfresh
          rcases hfresh with hfresh | hfresh
          · cases p with | nil => exact hp rfl | cons x p => simp at hfresh
          · rw [List.all_eq_true] at hfresh
            have := hfresh [] (by rw [List.drop_append_of_le_length hle]; simp)
            simp at this
        · rw [baseOld r hf e2]
          exact hqB.still r p m hr hp hm' (.inr ⟨R, e1, hfresh⟩)
    · rcases look r R' hR' with ⟨k, c, hk, rfl, _⟩ | ⟨b, hb, rfl, R0, e1, rfl⟩ | ⟨hf, e1, e2⟩
      · exact absurd (mine _ ⟨by omega, by have := (outAt k c hk).1; omega⟩) hr
      · exact ⟨R0, e1, by simp⟩
      · exact hqB.log r R' hr e1

end Go.VM
