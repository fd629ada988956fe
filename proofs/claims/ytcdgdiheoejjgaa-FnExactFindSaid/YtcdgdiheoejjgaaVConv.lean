/- Bytes and strings. -/
import Derived.Test.YtcdgdiheoejjgaaVGrow
namespace Go.VM
set_option linter.unusedSimpArgs false
set_option linter.unusedVariables false

theorem strBytes_sound {P : Program} {w ow bs st} {fr : Nat → Prop} {fid : Nat} (h : Rel w ow bs st fr) (hroom : Room fr fid) {e : TypeId} {s : ByteArray} :
    Does w ow bs st fr (fun y => fr y ∧ ¬ Mine fid y) ((do pure (Next.value (← Conv.stringToBytes e s)) : Sem Next).run P w) (.al fid [] 0 1 0 s.size)
      (st.ups [(fid, some ⟨false, 1, strRows s, []⟩)]) := by
  have hf0 : fr fid := by have := hroom 0 (by omega); simpa using this
  generalize hq : (Question.appendCap s.size 0 e).cut (w.tape w.drawn (.appendCap s.size 0 e)) = ncap
  have hncap : s.size ≤ ncap := by rw [← hq]; simp only [Question.cut]; omega
  generalize hcc : (s.data.map fun b => Value.int .u8 b.toNat) ++ Array.replicate (ncap - s.size) (Value.int .u8 0) = cc
  have hsz : s.size = s.data.size := rfl
  have hccl : cc.size = ncap := by rw [← hcc]; simp; omega
  have hval : ∀ (k : Nat) (b : UInt8), s.data.toList[k]? = some b → cc.getD k undef = .int .u8 b.toNat := by
    intro k b hb
    have hk : k < s.data.size := by have := lt_of_getl hb; simpa using this
    rw [← hcc, Array.getD_eq_getD_getElem?, Array.getElem?_append_left (by simpa using hk), Array.getElem?_map, ← Array.getElem?_toList, hb]; rfl
  have hw1 : Rel w.drew ow bs st fr := h.heap rfl
  obtain ⟨k1, k2, k3⟩ := hw1.alloc (r := fid) hf0 (sz := 1) (rows := strRows s) (cap := ncap) (c := cc) (e := e) (z := (ncap, ncap + 1)) false (by omega) (fun k hk hc => by omega) (by simp [strRows]; omega)
    (fun i row hi => by
      simp only [strRows, List.getElem?_map] at hi
      obtain ⟨b, _, rfl⟩ := Option.map_eq_some_iff.1 hi
      rfl)
    (fun i row j x hi hj => by
      simp only [strRows, List.getElem?_map] at hi
      obtain ⟨b, hb, rfl⟩ := Option.map_eq_some_iff.1 hi
      cases j with
      | zero =>
        simp only [List.getElem?_cons_zero, Option.some.injEq] at hj
        subst hj
        rw [Nat.mul_one, Nat.add_zero, hval i b hb]
        exact .inl .int
      | succ j => simp at hj)
    (fun hb => by cases hb)
  have hsub : ∀ x, (fr x ∧ ¬ Mine fid x) → fr x ∧ x ≠ fid := fun x hx => ⟨hx.1, fun e => hx.2 (by rw [e]; exact ⟨Nat.le_refl _, by omega⟩)⟩
  have hlen : (strRows s).length = s.size := by simp only [strRows, List.length_map, Array.length_toList]; rfl
  have hbase : newBase bs fid 1 (strRows s) ncap w.drew.heap.size (fid, []) = (1, .slice (some ⟨w.heap.size, 0, none⟩) s.size ncap) := by simp only [newBase, if_true, hlen]; rfl
  refine ⟨.slice (some ⟨w.heap.size, 0, none⟩) s.size ncap, w.drew.alloc (.cells cc e (ncap, ncap + 1)), _, _, .inl ?_, k1.shrink hsub, ?_, ⟨fun b hb hlt => k2.kept b hb hlt, k2.size, k2.os, k2.tape, k2.output⟩, ?_⟩
  · have hshape : (w.drew.alloc (.cells cc e)).shape? w.heap.size = some (e, cc.size) := by
      show (match (w.heap.push (Obj.cells cc e))[w.heap.size]? with | some (.cells c elem _) => some (elem, c.size) | _ => none) = _
      simp
    have hfreeze : (w.drew.alloc (.cells cc e)).freeze ⟨w.heap.size, ncap, none⟩ 1 = w.drew.alloc (.cells cc e (ncap, ncap + 1)) := by
      unfold World.freeze World.alloc World.drew
      simp only [Nat.one_ne_zero, if_false]
      congr 1
      apply Array.ext_getElem?
      intro k
      rw [Array.getElem?_modify]
      split
      · rename_i hk
        subst hk
        simp
      · rename_i hk
        simp only [Array.getElem?_push]
        split
        · rename_i e'; exact absurd e'.symm hk
        · rfl
    simp only [Conv.stringToBytes, Sem.run_bind, run_choose, Question.forced, Bool.false_eq_true, if_false, Result.andThen_ok, hq]
    rw [show ({ w with drawn := w.drawn + 1 } : World) = w.drew from rfl]
    simp only [newRow, Sem.run_bind, run_newObj_alloc, Result.andThen_ok, Sem.run_pure, hcc, markStringish, run_shape]
    rw [show w.drew.heap.size = w.heap.size from rfl, hshape]
    simp only [hccl, run_freeze, Result.andThen_ok]
    rw [hfreeze]
  · exact .al (fun e => e.2 ⟨Nat.le_refl _, by omega⟩) (fun _ => ⟨by rw [hbase], by rw [hbase]; exact .inl ⟨_, _, _, 0, ncap, rfl, rfl, .inr (by simp), by simp, hncap⟩⟩)
      ⟨_, _, rfl, hncap, (fun e => by cases e), (fun b e => by cases e; rfl)⟩ (fun R hR => Nat.zero_le _)
  · exact (k3.trans (Quiet.shrink hsub))

theorem bytes_fold (l : List Int) : ∀ (r : ByteArray), l.foldl (fun r n => r.push (UInt8.ofNat n.toNat)) r = ⟨r.data ++ (l.map fun n => UInt8.ofNat n.toNat).toArray⟩ := by
  induction l with
  | nil => intro r; simp
  | cons n l ih =>
    intro r
    rw [List.foldl_cons, ih]
    obtain ⟨d⟩ := r
    simp only [ByteArray.push]
    congr 1
    apply Array.ext'
    simp

theorem bytesV_ints : ∀ {rows : List (List T)} {l : List UInt8}, rows.mapM byteRow = some l → ∃ ns : List Int, rows = ns.map (fun n => [T.int .u8 n]) ∧ l = ns.map fun n => UInt8.ofNat n.toNat
  | [], l, h => by
    simp only [List.mapM_nil] at h
    cases h
    exact ⟨[], rfl, rfl⟩
  | row :: rows, l, h => by
    simp only [List.mapM_cons] at h
    cases hb : byteRow row with
    | none => rw [hb] at h; cases h
    | some b =>
      cases hr : rows.mapM byteRow with
      | none => rw [hb, hr] at h; cases h
      | some l' =>
        rw [hb, hr] at h
        have h : some (b :: l') = some l := h
        simp only [Option.some.injEq] at h
        subst h
        obtain ⟨ns, h1, h2⟩ := bytesV_ints hr
        unfold byteRow at hb
        split at hb
        · rename_i n
          simp only [Option.some.injEq] at hb
          exact ⟨n :: ns, by rw [h1]; rfl, by rw [← hb, h2]; rfl⟩
        · cases hb

theorem bytesStr_run {P : Program} {w ow bs st fr} (h : Rel w ow bs st fr) {x : VV} {v : Value} {rows : List (List T)} {b : ByteArray} (rx : RelV w ow bs st fr x v) (hx : rowsOf st x = some (1, rows)) (hb : bytesV rows = some b) :
    (Conv.bytesToString v).run P w = .ok (.string b) w := by
  obtain ⟨a, cap, rfl, hcap, hor⟩ := rows_rel h rx hx
  unfold bytesV at hb
  obtain ⟨l, hl, rfl⟩ := Option.map_eq_some_iff.1 hb
  obtain ⟨ns, hns, rfl⟩ := bytesV_ints hl
  cases a with
  | none =>
    rcases hor with h0 | ⟨b, c, e, z, hb, _⟩
    · rw [h0] at hns
      have : ns = [] := List.map_eq_nil_iff.1 hns.symm
      subst this
      simp [Conv.bytesToString]; rfl
    · cases hb
  | some a =>
    have hload : (loadCells a rows.length).run P w = .ok (ns.map (Value.int .u8)).toArray w := by
      rcases hor with h0 | ⟨b, c, e, z, hb, hs, hblk, hfit, hrows, hcells⟩
      · rw [h0] at hns ⊢
        have : ns = [] := List.map_eq_nil_iff.1 hns.symm
        subst this
        simp [loadCells, loadCellsFrom]
      · cases hb
        have hlen : rows.length = ns.length := by rw [hns]; simp
        have := run_loadCells (P := P) w a rows.length (fun k => Value.int .u8 (ns.getD k 0)) (fun k hk => by
          rw [add_eq _ _ hs, cell_of hblk (by omega)]
          have hkn : k < ns.length := by omega
          have := hcells k [T.int .u8 ns[k]] 0 (.int .u8 ns[k]) (by rw [hns, List.getElem?_map, List.getElem?_eq_getElem hkn]; rfl) (by simp) rfl
          rw [Nat.mul_one, Nat.add_zero] at this
          generalize c.getD (a.off + k) undef = cv at this ⊢
          cases this
          rw [List.getD_eq_getElem?_getD, List.getElem?_eq_getElem hkn]; rfl)
        rw [this]
        congr 2
        apply List.ext_getElem?
        intro k
        by_cases hk : k < ns.length
        · simp [List.getElem?_map, List.getElem?_range (show k < rows.length by omega), List.getElem?_eq_getElem hk]
        · rw [List.getElem?_eq_none (by simp; omega), List.getElem?_eq_none (by simp; omega)]
    rw [run_bytesToString w a _ _ ns hload, bytes_fold]
    simp

end Go.VM
