/- The operations that reckon with places: fields, elements, slices of slices. -/
import Derived.Test.YtcdgdiheoejjgaaVMem
namespace Go.VM
set_option linter.unusedSimpArgs false
set_option linter.unusedVariables false

theorem fieldPlace_run {P : Program} (w : World) (a : Addr) (f : Field) (h : P.cellsOf f.type ≠ 0) : (fieldPlace a f).run P w = .ok (a.add f.offset) w := by
  simp [fieldPlace, sizeOf_run h, h]

theorem fieldAddr_run {P : Program} {w ow bs st fr} {t f off ft} (hf : fieldT P t f = some (off, ft)) {x z : VV} {v : Value} (rx : RelV w ow bs st fr x v)
    (hz : (∃ r p m i j, x = .ptr r p m i j ∧ z = .ptr r p m i (j + off)) ∨ (∃ cs, x = .rop cs ∧ off < cs.length ∧ z = .rop (cs.drop off))) :
    ∃ u, (Instr.fieldAt t v f).run P w = .ok u w ∧ RelV w ow bs st fr z u := by
  obtain ⟨fs, fd, hu, hfd, rfl, rfl, hc⟩ := fieldT_some hf
  rcases hz with ⟨r, p, m, i, j, rfl, rfl⟩ | ⟨cs, rfl, hlt, rfl⟩
  · cases rx with
    | @ptr _ _ _ _ _ _ hnf hp hv hm =>
    obtain ⟨a, rfl, hs⟩ := hv
    refine ⟨.pointer (some (a.add fd.offset)), by simp [Instr.fieldAt, run_underlying hu, hfd, Instr.sureAddr, fieldPlace_run w a fd hc], ?_⟩
    rw [add_eq _ _ hs]
    refine .ptr hnf (fun hst => ?_) ⟨_, rfl, rfl⟩ hm
    obtain ⟨b, l, cap, h1, h2⟩ := hp hst
    simp only [Value.pointer.injEq, Option.some.injEq] at h2
    subst h2
    exact ⟨b, l, cap, h1, by simp only [Nat.add_assoc]⟩
  · cases rx with
    | @rop _ a c e z' spot own blk fits cells =>
    refine ⟨.pointer (some (a.add fd.offset)), by simp [Instr.fieldAt, run_underlying hu, hfd, Instr.sureAddr, fieldPlace_run w a fd hc], ?_⟩
    rw [add_eq _ _ spot]
    refine .rop rfl own blk (by simp only [List.length_drop]; omega) (fun k y hk => ?_)
    rw [List.getElem?_drop] at hk
    simp only [Nat.add_assoc]
    exact cells _ _ hk

theorem bytes_int {n : Int} (h : 0 ≤ n) : (n.toNat : Int) = n := Int.toNat_of_nonneg h

theorem indexAddr_run {P : Program} {w ow bs st fr} {t : TypeId} {x y z : VV} {vx vy : Value} (rx : RelV w ow bs st fr x vx) (ry : RelV w ow bs st fr y vy) (h : indexAddrV P t x y = some z) :
    ∃ u, (Instr.indexAt t vx vy).run P w = .ok u w ∧ RelV w ow bs st fr z u := by
  unfold indexAddrV at h
  split at h
  · rename_i r p m sz off len k n
    cases he : elemT P t with
    | none => rw [he] at h; cases h
    | some e =>
      rw [he] at h
      simp only at h
      split at h
      · rename_i hc
        obtain ⟨hsz, h0, hn⟩ := hc
        simp only [Option.some.injEq] at h
        subst h
        obtain ⟨hu, hne⟩ := elemT_some he
        rw [rel_int ry]
        cases rx with
        | @al _ _ _ _ _ _ _ hnf hs hv hm =>
        obtain ⟨a, cap, rfl, hcap, hnone, hspot⟩ := hv
        cases a with
        | none => have := (hnone rfl).1; omega
        | some a =>
          have hsp := hspot a rfl
          refine ⟨.pointer (some (a.add (n.toNat * P.cellsOf e))), ?_, ?_⟩
          · simp [Instr.indexAt, asIntOf, run_underlying hu, h0, hn, sizeOf_run hne]
          · rw [add_eq _ _ hsp, hsz]
            refine .ptr hnf (fun hst => ?_) ⟨_, rfl, rfl⟩ hm
            obtain ⟨hb, hsub⟩ := hs hst
            rcases hsub with ⟨b, l, cap', o, cap'', hbv, hv, ho, _, _⟩ | ⟨l, cap', _, hl, _⟩
            · simp only [Value.slice.injEq, Option.some.injEq] at hv
              obtain ⟨rfl, _, _⟩ := hv
              refine ⟨b, l, cap', hbv, ?_⟩
              have : o = b.off + off * (bs (r, p)).1 := by
                rcases ho with h' | h'
                · omega
                · rw [hb]; exact h'
              simp only [this, hb, Nat.add_mul, Nat.add_zero, Nat.add_assoc]
            · omega
      · cases h
  · rename_i sz es k n
    cases he : elemT P t with
    | none => rw [he] at h; cases h
    | some e =>
      rw [he] at h
      simp only at h
      split at h
      · rename_i hc
        obtain ⟨hsz, h0, hn⟩ := hc
        simp only [Option.some.injEq] at h
        subst h
        obtain ⟨hu, hne⟩ := elemT_some he
        rw [rel_int ry]
        cases rx with
        | c rx =>
        cases rx with
        | nil => simp at hn; omega
        | @list a _ _ len cap c e' z' spot own blk hlen hcap fits rows cells =>
          subst hlen
          have hnl : n.toNat < es.length := by omega
          refine ⟨.pointer (some (a.add (n.toNat * P.cellsOf e))), ?_, ?_⟩
          · simp [Instr.indexAt, asIntOf, run_underlying hu, h0, hn, sizeOf_run hne]
          · have hrow := List.getElem?_eq_getElem hnl
            have hrl := rows _ _ hrow
            have hfit : (n.toNat + 1) * sz ≤ es.length * sz := Nat.mul_le_mul_right _ hnl
            rw [Nat.add_mul] at hfit
            rw [add_eq _ _ spot, hsz, getD_of hrow]
            refine .rop rfl own blk (by simp only; omega) (fun j y hj => ?_)
            exact cells _ _ j y hrow hj
      · cases h
  · cases h

theorem slice_len {w ow bs st fr} {x : VV} {v : Value} {n : Nat} (rx : RelV w ow bs st fr x v) (h : lenV x = some n) : (∃ s, x = .c (.str s) ∧ v = .string s ∧ n = s.size) ∨ (∃ a cap, v = .slice a n cap ∧ n ≤ cap) := by
  unfold lenV at h
  split at h
  · simp only [Option.some.injEq] at h; subst h
    cases rx; exact .inr ⟨_, _, rfl, Nat.le_refl _⟩
  · simp only [Option.some.injEq] at h; subst h
    cases rx with
    | c rx =>
    cases rx with
    | nil => exact .inr ⟨_, _, rfl, Nat.zero_le _⟩
    | list spot own blk hlen hcap => subst hlen; exact .inr ⟨_, _, rfl, hcap⟩
  · simp only [Option.some.injEq] at h; subst h
    exact .inl ⟨_, rfl, rel_str rx, rfl⟩
  · simp only [Option.some.injEq] at h; subst h
    cases rx with
    | al hnf hs hv hm =>
    obtain ⟨a, cap, rfl, hcap, _⟩ := hv
    exact .inr ⟨_, _, rfl, hcap⟩
  · cases h

theorem bound_run {P : Program} {w ow bs st fr} {x : VV} {v : Value} {d n : Nat} (rx : RelV w ow bs st fr x v) (h : boundV (some x) d = some n) (y : Nat) (hy : n ≤ y) (code : BoundsCode) :
    (Instr.sliceBound v y code).run P w = .ok n w := by
  unfold boundV at h
  split at h
  · rename_i heq; cases heq
  · rename_i k m heq
    simp only [Option.some.injEq] at heq
    subst heq
    split at h
    · rename_i h0
      simp only [Option.some.injEq] at h
      subst h
      rw [rel_int rx]
      have : m ≤ y := by omega
      simp [Instr.sliceBound, asIntOf, h0, this]
    · cases h
  · cases h

theorem extract_str (s : ByteArray) (l h : Nat) : s.extract l h = s.extract l h := rfl

theorem slice_run {P : Program} {w ow bs st fr} {t : TypeId} {x z : VV} {vx : Value} {lo hi : Option VV} {vlo vhi : Option Value} (rx : RelV w ow bs st fr x vx)
    (rlo : ∀ y, lo = some y → ∃ v, vlo = some v ∧ RelV w ow bs st fr y v) (rlo' : lo = none → vlo = none) (rhi : ∀ y, hi = some y → ∃ v, vhi = some v ∧ RelV w ow bs st fr y v) (rhi' : hi = none → vhi = none)
    (hz : sliceV P t x lo hi = some z) :
    ∃ u, (Instr.sliceAt t vx vlo vhi none).run P w = .ok u w ∧ RelV w ow bs st fr z u := by
  obtain ⟨l, len, h, hl, hlen, hh, hlh, hhl, hzz⟩ : ∃ l len h, boundV lo 0 = some l ∧ lenV x = some len ∧ boundV hi len = some h ∧ l ≤ h ∧ h ≤ len ∧ cutV P t l h x = some z := by
    unfold sliceV at hz
    split at hz
    · rename_i l len h1 h2
      split at hz
      · rename_i h h3
        split at hz
        · rename_i h4
          exact ⟨l, len, h, h1, h2, h3, h4.1, h4.2, hz⟩
        · cases hz
      · cases hz
    · cases hz
  have bounds : ∀ (isSlice : Bool) (cap : Nat), len ≤ cap → (Instr.sliceBounds isSlice len cap vlo vhi none).run P w = .ok (l, h, cap) w := by
    intro isSlice cap hcap
    unfold Instr.sliceBounds
    cases hi with
    | none =>
      obtain rfl := rhi' rfl
      simp only [boundV, Option.some.injEq] at hh; subst hh
      cases lo with
      | none => obtain rfl := rlo' rfl; simp only [boundV, Option.some.injEq] at hl; subst hl; simp
      | some y =>
        obtain ⟨v, rfl, rv⟩ := rlo y rfl
        simp [bound_run rv hl _ hlh]
    | some y2 =>
      obtain ⟨v2, rfl, rv2⟩ := rhi y2 rfl
      cases lo with
      | none =>
        obtain rfl := rlo' rfl; simp only [boundV, Option.some.injEq] at hl; subst hl
        simp [bound_run rv2 hh cap (by omega)]
      | some y =>
        obtain ⟨v, rfl, rv⟩ := rlo y rfl
        simp [bound_run rv2 hh cap (by omega), bound_run rv hl _ hlh]
  clear hz
  have hz := hzz
  clear hzz
  unfold cutV at hz
  split at hz
  · rename_i s
    split at hz
    · rename_i ht
      simp only [Option.some.injEq] at hz
      subst hz
      rw [rel_str rx]
      have hu := strT_true ht
      simp only [lenV, Option.some.injEq] at hlen
      subst hlen
      refine ⟨.string (s.extract l h), ?_, .c .str⟩
      simp [Instr.sliceAt, Instr.slice, run_underlying hu, bounds false s.size (Nat.le_refl _)]
    · cases hz
  · rename_i sz
    split at hz
    · rename_i ht
      simp only [Option.some.injEq] at hz
      subst hz
      simp only [lenV, Option.some.injEq] at hlen
      subst hlen
      cases rx
      cases he : elemT P t with
      | none => exact absurd he ht
      | some e =>
        obtain ⟨hu, hne⟩ := elemT_some he
        obtain rfl : h = 0 := by omega
        obtain rfl : l = 0 := by omega
        refine ⟨.slice none 0 0, ?_, .nils⟩
        simp [Instr.sliceAt, Instr.slice, run_underlying hu, bounds true 0 (Nat.le_refl _), sizeOf_run hne]
    · cases hz
  · rename_i sz es
    cases he : elemT P t with
    | none => rw [he] at hz; cases hz
    | some e =>
      rw [he] at hz
      simp only at hz
      split at hz
      · rename_i hsz
        simp only [Option.some.injEq] at hz
        subst hz
        obtain ⟨hu, hne⟩ := elemT_some he
        simp only [lenV, Option.some.injEq] at hlen
        subst hlen
        cases rx with
        | c rx =>
        cases rx with
        | @nil _ a cap =>
          simp only [List.length_nil] at hhl bounds
          obtain rfl : h = 0 := by omega
          obtain rfl : l = 0 := by omega
          refine ⟨.slice a 0 cap, ?_, .c (by simpa using RepR.nil)⟩
          simp [Instr.sliceAt, Instr.slice, run_underlying hu, bounds true cap (Nat.zero_le _), sizeOf_run hne]
          intro hc
          cases a with
          | none => rfl
          | some a => simp [Addr.add]
        | @list a _ _ len cap c e' z' spot own blk hlen hcap fits rows cells =>
          subst hlen
          by_cases hml : cap = l
          · have : l = es.length := by omega
            have hh0 : h = l := by omega
            refine ⟨.slice (some a) (h - l) (cap - l), ?_, ?_⟩
            · subst hml; simp [Instr.sliceAt, Instr.slice, run_underlying hu, bounds true cap hcap, sizeOf_run hne]
            · rw [hh0]
              simp only [Nat.sub_self, List.take_zero]
              exact .c .nil
          · refine ⟨.slice (some (a.add (l * P.cellsOf e))) (h - l) (cap - l), ?_, ?_⟩
            · simp [Instr.sliceAt, Instr.slice, run_underlying hu, bounds true cap hcap, sizeOf_run hne, hml]
            · rw [add_eq _ _ spot, hsz]
              have hmul : (l + (h - l)) * sz ≤ es.length * sz := Nat.mul_le_mul_right _ (by omega)
              rw [Nat.add_mul] at hmul
              refine .c (.list rfl own blk (by simp; omega) (by omega) (by simp only; omega) (fun i row hr => ?_) (fun i row j y hr hj => ?_))
              · rw [List.getElem?_take] at hr
                split at hr
                · rw [List.getElem?_drop] at hr; exact rows _ _ hr
                · cases hr
              · rw [List.getElem?_take] at hr
                split at hr
                · rw [List.getElem?_drop] at hr
                  have := cells _ _ j y hr hj
                  simp only
                  rw [show a.off + l * sz + i * sz + j = a.off + (l + i) * sz + j from by rw [Nat.add_mul]; omega]
                  exact this
                · cases hr
      · cases hz
  · rename_i r p m sz off len'
    cases he : elemT P t with
    | none => rw [he] at hz; cases hz
    | some e =>
      rw [he] at hz
      simp only at hz
      split at hz
      · rename_i hsz
        simp only [Option.some.injEq] at hz
        subst hz
        obtain ⟨hu, hne⟩ := elemT_some he
        simp only [lenV, Option.some.injEq] at hlen
        subst hlen
        cases rx with
        | @al _ _ _ _ _ _ _ hnf hs hv hm =>
        obtain ⟨a, cap, rfl, hcap, hnone, hspot⟩ := hv
        have hrun : ∀ a', (if cap = l then a else a.map (·.add (l * P.cellsOf e))) = a' → (Instr.sliceAt t (.slice a len' cap) vlo vhi none).run P w = .ok (.slice a' (h - l) (cap - l)) w := by
          intro a' ha
          rw [← ha]
          simp [Instr.sliceAt, Instr.slice, run_underlying hu, bounds true cap hcap, sizeOf_run hne]
        refine ⟨_, hrun _ rfl, ?_⟩
        refine .al hnf (fun hst => ?_) ⟨_, _, rfl, by omega, ?_, ?_⟩ hm
        · obtain ⟨hb, hsub⟩ := hs hst
          refine ⟨hb, ?_⟩
          rcases hsub with ⟨b, lb, capb, o, cap', hbv, hv, ho, hfit, hle⟩ | ⟨lb, capb, hbv, hl0, hv⟩
          · simp only [Value.slice.injEq] at hv
            obtain ⟨rfl, _, rfl⟩ := hv
            by_cases hml : cap = l
            · have hh0 : h = l := by omega
              refine .inl ⟨b, lb, capb, o, 0, hbv, ?_, .inl (by omega), by omega, by omega⟩
              simp [hml]
            · refine .inl ⟨b, lb, capb, o + l * sz, cap - l, hbv, ?_, ?_, ?_, by omega⟩
              · simp only [hml, if_false, Option.map_some, hsz]
                rw [add_eq _ _ rfl]
              · rcases ho with h0 | h0
                · exact .inl (by omega)
                · exact .inr (by rw [h0, Nat.add_mul]; omega)
              · have : l * sz + (cap - l) * sz = cap * sz := by rw [← Nat.add_mul]; congr 1; omega
                omega
          · simp only [Value.slice.injEq] at hv
            obtain ⟨rfl, rfl, rfl⟩ := hv
            refine .inr ⟨lb, capb, hbv, by omega, ?_⟩
            have : l = 0 := by omega
            have : h = 0 := by omega
            simp_all
        · intro hn
          have : a = none := by
            split at hn
            · exact hn
            · cases a with
              | none => rfl
              | some a => simp at hn
          have := hnone this
          omega
        · intro b hb
          split at hb
          · exact hspot b hb
          · cases a with
            | none => simp at hb
            | some a =>
              simp only [Option.map_some, Option.some.injEq] at hb
              subst hb
              rw [add_eq _ _ (hspot a rfl)]
      · cases hz
  · cases hz

end Go.VM
