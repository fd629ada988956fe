/- New rows out of values: what the frame is told of them. -/
import Derived.Test.YtkijdbljnefeaaaGreatDoorPVMRe
import Derived.Laws.BytesString
import Derived.IntWalk
set_option linter.unusedSimpArgs false
set_option linter.unusedVariables false
namespace Go.VM
theorem setCells_row : ∀ (ys : List T) (i j : Nat) (rows : List (List T)) (row : List T), rows[i]? = some row → j + ys.length ≤ row.length → setCells i j ys rows = rows.set i (row.take j ++ ys ++ row.drop (j + ys.length))
  | [], i, j, rows, row, hr, hl => by
    simp only [setCells,List.append_nil,List.length_nil,Nat.add_zero,List.take_append_drop]
    exact (set_same hr).symm
  | y :: ys, i, j, rows, row, hr, hl => by
    simp only [List.length_cons] at hl
    simp only [setCells]
    rw [setCells_row ys i (j + 1) _ _ (setIn_row hr j y) (by simp; omega)]
    simp only [setIn,getD_of hr,List.set_set]
    congr 1
    have hj : j < row.length := by omega
    rw [List.drop_set_of_lt (by omega)]
    rw [show j + (y :: ys).length = j + 1 + ys.length from by simp; omega]
    congr 1
    rw [show (row.take j ++ y :: ys) = (row.take j ++ [y]) ++ ys from by simp]
    congr 1
    rw [List.take_succ_eq_append_getElem (by simpa using hj)]
    simp [List.take_set_of_le]
theorem Rel.relog {w ow bs st st' fr} (h : Rel w ow bs st fr) (hs : ∀ r R, st' r = some R → ∃ R0, st r = some R0 ∧ R0.box = R.box ∧ R0.sz = R.sz ∧ R0.rows = R.rows) : Rel w ow bs st' fr := by
  refine ⟨fun r R hr => ?_, fun r R hr hb => ?_, h.own, fun r hr => ?_⟩
  · obtain ⟨R0, h0, _, h2, h3⟩ := hs r R hr
    rw [← h2, ← h3]; exact h.root r R0 h0
  · obtain ⟨R0, h0, h1, _, _⟩ := hs r R hr
    exact h.box r R0 h0 (h1.trans hb)
  · cases hx : st' r with
    | none => rfl
    | some R =>
      obtain ⟨R0, h0, _⟩ := hs r R hx
      rw [h.free r hr] at h0; cases h0
theorem Quiet.to {bs st fr bs1 st1 fr1 st2 fr2} (h : Quiet bs st fr bs1 st1 fr1) (hs : ∀ x R, ¬ fr x → st2 x = some R → st1 x = some R) (hf : ∀ x, fr2 x → fr x) : Quiet bs st fr bs1 st2 fr2 := by
  refine ⟨h.base, fun r p m hr hp hm hst => ?_, fun r R' hr h' => h.log r R' hr (hs r R' hr h'), hf⟩
  refine h.still r p m hr hp hm ?_
  rcases hst with h0 | ⟨R, h1, h2⟩
  · exact .inl h0
  · exact .inr ⟨R, hs r R hr h1, h2⟩
theorem ups_other {st : St} {x : Nat} : ∀ {u : Ups}, (∀ r R', (r, R') ∈ u → r ≠ x) → (st.ups u) x = st x := by
  intro u
  induction u generalizing st with
  | nil => intro _; rfl
  | cons a u ih =>
    obtain ⟨r, R⟩ := a
    intro h
    rw [St.ups_cons, ih (fun r' R' hm => h r' R' (List.mem_cons_of_mem _ hm)), St.put_ne]
    exact fun e => h r R (List.mem_cons_self ..) e.symm
def chunk (ys : List T) (sz i : Nat) : List T := (ys.drop (i * sz)).take sz
def chunks (ys : List T) (sz n : Nat) : List (List T) := (List.range n).map (chunk ys sz)
def hollow (y : T) : T := if isOwn y then .dead else y
theorem chunk_length {ys : List T} {sz n i : Nat} (h : ys.length = n * sz) (hi : i < n) : (chunk ys sz i).length = sz := by
  simp only [chunk,List.length_take,List.length_drop,h]
  have : (i + 1) * sz ≤ n * sz := Nat.mul_le_mul_right _ hi
  rw [Nat.add_mul] at this
  omega
theorem chunk_get {ys : List T} {sz i j : Nat} (hj : j < sz) : (chunk ys sz i)[j]? = ys[i * sz + j]? := by
  simp [chunk,List.getElem?_take,hj,List.getElem?_drop]
theorem chunks_get {ys : List T} {sz n i : Nat} (hi : i < n) : (chunks ys sz n)[i]? = some (chunk ys sz i) := by
  simp [chunks,List.getElem?_map,List.getElem?_range hi]
@[simp] theorem chunks_length (ys : List T) (sz n : Nat) : (chunks ys sz n).length = n := by simp [chunks]
def mix (ys : List T) (sz n i : Nat) : List (List T) := (chunks ys sz n).take i ++ (chunks (ys.map hollow) sz n).drop i
theorem mix_get {ys : List T} {sz n i : Nat} (h : i ≤ n) (m : Nat) : (mix ys sz n i)[m]? = if m < i then (chunks ys sz n)[m]? else (chunks (ys.map hollow) sz n)[m]? := by
  unfold mix
  have hl : ((chunks ys sz n).take i).length = i := by simp; omega
  split
  · rename_i hm
    rw [List.getElem?_append_left (by omega), List.getElem?_take, if_pos hm]
  · rename_i hm
    rw [List.getElem?_append_right (by omega), List.getElem?_drop, hl]
    congr 1
    omega
theorem fillRows_sound {w : World} {r n sz t0 : Nat} {ys : List T} {box : Bool} {a : Addr} {len cap : Nat} {c : Array Value} {e z} {fr : Nat → Prop} (hlen : ys.length = n * sz) (hblk : w.heap[a.block]? = some (.cells c e z)) (hr : r < t0) :
    ∀ (k : Nat) {ow bs st} {log : List Path}, k ≤ n → Rel w ow bs st fr → st r = some ⟨box, sz, mix ys sz n (n - k), log⟩ → (bs (r, [])).2 = .slice (some a) len cap →
    (∀ (m : Nat) (y : T), (n - k) * sz ≤ m → ys[m]? = some y → Holds w ow bs st (t0 + m) y (c.getD (a.off + m) undef)) →
    ∃ ow' bs' st' log', Rel w ow' bs' st' fr ∧ Kept w ow w ow' ∧ Quiet bs st fr bs' st' fr ∧ st' r = some ⟨box, sz, chunks ys sz n, log'⟩ ∧ (∀ x, x ≠ r → ¬ (t0 ≤ x ∧ x < t0 + n * sz) → st' x = st x)
  | 0, ow, bs, st, log, hk, h, hst, hb, hh => by
    refine ⟨ow, bs, st, log, h, Kept.refl _ _, Quiet.refl _ _ _, ?_, fun _ _ _ => rfl⟩
    rw [hst]
    simp only [Option.some.injEq,Root.mk.injEq,true_and,and_true,Nat.sub_zero]
    apply List.ext_getElem?
    intro m
    rw [mix_get (Nat.le_refl _)]
    split
    · rfl
    · rename_i hm
      rw [List.getElem?_eq_none (by simp; omega), List.getElem?_eq_none (by simp; omega)]
  | k + 1, ow, bs, st, log, hk, h, hst, hb, hh => by
    have hi : n - (k + 1) < n := by omega
    generalize hidx : n - (k + 1) = i at *
    have hik : n - k = i + 1 := by omega
    have hlenH : (ys.map hollow).length = n * sz := by simpa using hlen
    have hrow : (mix ys sz n i)[i]? = some (chunk (ys.map hollow) sz i) := by
      rw [mix_get (Nat.le_of_lt hi), if_neg (Nat.lt_irrefl _), chunks_get hi]
    have hcl := chunk_length hlen hi
    have hclH := chunk_length hlenH hi
    obtain ⟨ow1, bs1, st1, g1, g2, g3, g4, g5, g6, g7, g8⟩ := fill_sound (chunk ys sz i) 0 (t0 + i * sz) (p := []) (i := i) (row := chunk (ys.map hollow) sz i) h hst (sz := sz) rfl hrow (by omega) hb hblk
      (fun m hm => by omega) (fun m y hy => by
        have hml := lt_of_getl hy
        rw [chunk_get (by omega)] at hy
        have := hh (i * sz + m) y (by omega) hy
        rw [show t0 + (i * sz + m) = t0 + i * sz + m from by omega] at this
        rw [show a.off + i * sz + (0 + m) = a.off + (i * sz + m) from by omega]
        exact this)
    have hset : setCells i 0 (chunk ys sz i) (mix ys sz n i) = mix ys sz n (n - k) := by
      rw [setCells_row _ _ _ _ _ hrow (by omega), hik]
      simp only [List.take_zero,List.nil_append,Nat.zero_add]
      rw [List.drop_eq_nil_of_le (by omega), List.append_nil]
      apply List.ext_getElem?
      intro m
      rw [List.getElem?_set]
      have hml : (mix ys sz n i).length = n := by simp [mix]; omega
      by_cases hm : i = m
      · subst m
        rw [if_pos rfl, if_pos (by omega), mix_get (by omega), if_pos (by omega), chunks_get hi]
      · rw [if_neg hm, mix_get (Nat.le_of_lt hi), mix_get (i := i + 1) (by omega)]
        by_cases hlt : m < i
        · rw [if_pos hlt, if_pos (by omega)]
        · rw [if_neg hlt, if_neg (by omega)]
    have hst1 : st1 r = some ⟨box, sz, mix ys sz n (n - k), log ++ filled [] i 0 (chunk ys sz i)⟩ := by
      rw [g4]
      simp only [modAt,hset]
    obtain ⟨ow2, bs2, st2, log2, k1, k2, k3, k4, k5⟩ := fillRows_sound hlen hblk hr k (by omega) g1 hst1 (by rw [g8]; exact hb) (fun m y hm hy => by
      rw [hik, Nat.add_mul] at hm
      refine (hh m y (by omega) hy).mono g2 (g5 _ (by omega) ?_) (g7 _ (by omega))
      rw [hcl]; omega)
    refine ⟨ow2, bs2, st2, log2, k1, fun b hb hlt => ?_, g3.trans k3, k4, fun x hx hne => ?_⟩
    · have e1 := g2 b hb hlt
      exact k2 b e1.2 hlt
    · rw [k5 x hx hne]
      refine g5 x hx (fun e => hne ?_)
      rw [hcl] at e
      have : (i + 1) * sz ≤ n * sz := Nat.mul_le_mul_right _ hi
      rw [Nat.add_mul] at this
      omega
theorem hollow_rep {w ow bs st t y v} (h : Holds w ow bs st t y v) : RepR w ow (hollow y) v := by
  rcases h with ⟨h1, h2, h3⟩ | ⟨sz, es, rfl, _⟩
  · simp only [hollow,h1]; exact h3
  · simp only [hollow,isOwn,if_true]; exact .dead
/-- A new row of values: lists move into it. -/
theorem newRow_sound {w : World} {ow bs st} {fr fr' : Nat → Prop} {fid : Nat} (h : Rel w ow bs st fr) {xs : List VV} {vs : List Value} {ys : List T} {u : Ups} (hx : takeVs st xs = some (ys, u)) (hl : xs.length = vs.length)
    (rx : ∀ (k : Nat) (x : VV) (v : Value), xs[k]? = some x → vs[k]? = some v → RelV w ow bs st fr x v) (hf : ∀ c, c ≤ xs.length → fr (fid + c)) (hf' : ∀ x, fr' x → fr x ∧ ¬ (fid ≤ x ∧ x < fid + 1 + xs.length))
    {n sz cap : Nat} (hn : xs.length = n * sz) (e : TypeId) (z : Nat × Nat) (c : Array Value) (hc : ∀ (k : Nat) (v : Value), vs[k]? = some v → c.getD k undef = v) (hcap : n ≤ cap) (hsz : cap * sz ≤ c.size) (free : Unfrozen z c.size) (box : Bool) (hbox : box = true → n = 1 ∧ cap = 1) :
    ∃ ow' bs', Rel (w.alloc (.cells c e z)) ow' bs' (st.ups (u ++ [(fid, some ⟨box, sz, chunks ys sz n, []⟩)])) fr' ∧ Steady w ow (w.alloc (.cells c e z)) ow' ∧
      Quiet bs st fr bs' (st.ups (u ++ [(fid, some ⟨box, sz, chunks ys sz n, []⟩)])) fr' ∧ bs' (fid, []) = (sz, .slice (some ⟨w.heap.size, 0, none⟩) n cap) := by
  obtain ⟨owB, bsB, stB, g1, g2, g3, g4, g5, g6, g7, g8⟩ := takeVs_sound xs vs ys u (fid + 1) h (fun k hk => by have := hf (k + 1) (by omega); rwa [show fid + (k + 1) = fid + 1 + k from by omega] at this) (fun _ _ => rfl) (Quiet.refl _ _ _) (Kept.refl _ _) hx hl rx
  have hf0 : fr fid := by have := hf 0 (by omega); simpa using this
  have hys : ys.length = n * sz := by rw [g5]; exact hn
  have hysH : (ys.map hollow).length = n * sz := by simpa using hys
  have hval : ∀ (m : Nat) (y : T), ys[m]? = some y → Holds w owB bsB stB (fid + 1 + m) y (c.getD m undef) := by
    intro m y hy
    have hml : m < vs.length := by have := lt_of_getl hy; omega
    obtain ⟨v, hv⟩ : ∃ v, vs[m]? = some v := ⟨_, List.getElem?_eq_getElem hml⟩
    rw [hc m v hv]
    exact g6 m y v hy hv
  obtain ⟨k1, k2, k3⟩ := g1.alloc (r := fid) ⟨hf0, by omega⟩ (sz := sz) (rows := chunks (ys.map hollow) sz n) (cap := cap) (c := c) (e := e) (z := z) box hsz free (by simpa [chunks] using hcap)
    (fun i row hi => by
      have hin : i < n := by have := lt_of_getl hi; simpa [chunks] using this
      rw [chunks_get hin] at hi
      simp only [Option.some.injEq] at hi
      subst hi
      exact chunk_length hysH hin)
    (fun i row j x hi hj => by
      have hin : i < n := by have := lt_of_getl hi; simpa [chunks] using this
      rw [chunks_get hin] at hi
      simp only [Option.some.injEq] at hi
      subst hi
      have hjl : j < sz := by have := lt_of_getl hj; rwa [chunk_length hysH hin] at this
      rw [chunk_get hjl, List.getElem?_map] at hj
      obtain ⟨y, hy, rfl⟩ := Option.map_eq_some_iff.1 hj
      exact .inl (hollow_rep (hval _ y hy)))
    (fun hb => ⟨by simpa [chunks] using (hbox hb).1, (hbox hb).2⟩)
  have hblk : (w.alloc (.cells c e z)).heap[w.heap.size]? = some (.cells c e z) := by show (w.heap.push _)[w.heap.size]? = _; simp
  obtain ⟨ow2, bs2, st2, log2, m1, m2, m3, m4, m5⟩ := fillRows_sound (r := fid) (t0 := fid + 1) (a := ⟨w.heap.size, 0, none⟩) (n := n) (sz := sz) (ys := ys) (box := box) (len := (chunks (ys.map hollow) sz n).length) (cap := cap) hys hblk (by omega) n (Nat.le_refl _) k1 (log := [])
    (by rw [St.put_eq]; simp [mix]) (by simp [newBase]) (fun m y _ hy => by
      have := hval m y hy
      have hne : fid + 1 + m ≠ fid := by omega
      simp only [Nat.zero_add]
      exact this.mono k2.kept (St.put_ne _ _ hne) (newBase_ne _ hne))
  have hbase : bs2 (fid, []) = (sz, .slice (some ⟨w.heap.size, 0, none⟩) n cap) := by
    have h1 := m3.base fid (by simp)
    rw [h1]
    simp [newBase,chunks]
  have hV : ∀ x R, (st.ups (u ++ [(fid, some ⟨box, sz, chunks ys sz n, []⟩)])) x = some R → ∃ R0, st2 x = some R0 ∧ R0.box = R.box ∧ R0.sz = R.sz ∧ R0.rows = R.rows ∧ (x ≠ fid → R0 = R) := by
    intro x R hR
    rw [St.ups_append, St.ups_cons, St.ups_nil] at hR
    by_cases ex : x = fid
    · subst ex
      simp only [St.put_eq,Option.some.injEq] at hR
      subst hR
      exact ⟨_, m4, rfl, rfl, rfl, fun e => absurd rfl e⟩
    · rw [St.put_ne _ _ ex] at hR
      have hnf : ¬ fr x := by
        intro hfx
        rw [ups_other (fun r R' hm e => g8 r R' hm (by rw [e]; exact hfx)), h.free x hfx] at hR
        cases hR
      have hnt : ¬ (fid + 1 ≤ x ∧ x < fid + 1 + n * sz) := by
        intro hx'
        apply hnf
        have := hf (x - fid) (by omega)
        rwa [show fid + (x - fid) = x from by omega] at this
      rw [m5 x ex hnt, St.put_ne _ _ ex, g4 x hnf]
      exact ⟨R, hR, rfl, rfl, rfl, fun _ => rfl⟩
  refine ⟨ow2, bs2, (m1.relog (fun r R hr => by obtain ⟨R0, q1, q2, q3, q4, _⟩ := hV r R hr; exact ⟨R0, q1, q2, q3, q4⟩)).shrink (fun x hx => ?_), ?_, ?_, hbase⟩
  · have := hf' x hx
    exact ⟨⟨this.1, by omega⟩, by omega⟩
  · exact ⟨fun b hb hlt => by
      have e1 := g2 b hb hlt
      have e2 := k2.kept b e1.2 hlt
      have e3 := m2 b e2.2 (Nat.lt_of_lt_of_le hlt k2.size)
      exact ⟨e3.1.trans e2.1, e3.2⟩, k2.size, k2.os, k2.tape, k2.output⟩
  · refine ((g3.trans k3).trans m3).to (fun x R hnf hR => ?_) (fun x hx => (hf' x hx).1)
    obtain ⟨R0, q1, _, _, _, q5⟩ := hV x R hR
    rw [q1, q5 (fun e => hnf (by rw [e]; exact hf0))]
end Go.VM
/- Variables, rows, stores: the operations that turn memory. -/
namespace Go.VM
/-- The ids that an operation may use. -/
def Mine (fid : Nat) (x : Nat) : Prop := fid ≤ x ∧ x < fid + 1024
def Room (fr : Nat → Prop) (fid : Nat) : Prop := ∀ c, c < 1024 → fr (fid + c)
theorem takeVs_length : ∀ {st : St} {xs : List VV} {ys u}, takeVs st xs = some (ys, u) → ys.length = xs.length
  | st, [], ys, u, h => by simp only [takeVs,Option.some.injEq,Prod.mk.injEq] at h; rw [← h.1]; rfl
  | st, x :: xs, ys, u, h => by
    simp only [takeVs] at h
    split at h
    · split at h
      · rename_i h2
        simp only [Option.some.injEq,Prod.mk.injEq] at h
        rw [← h.1]; simp [takeVs_length h2]
      · cases h
    · cases h
/-- The cells of a value that goes into memory. -/
theorem cells_rel {w ow bs st fr} {x : VV} {v : Value} (rx : RelV w ow bs st fr x v) {stV : St} {ys u} (hx : takeVs stV x.cells = some (ys, u)) :
    x.cells.length = v.cells.toList.length ∧ ∀ (k : Nat) (y : VV) (z : Value), x.cells[k]? = some y → v.cells.toList[k]? = some z → RelV w ow bs st fr y z := by
  have one : x.cells = [x] → v.cells = #[v] → x.cells.length = v.cells.toList.length ∧ ∀ (k : Nat) (y : VV) (z : Value), x.cells[k]? = some y → v.cells.toList[k]? = some z → RelV w ow bs st fr y z := by
    intro h1 h2
    rw [h1, h2]
    refine ⟨rfl, fun k y z hy hz => ?_⟩
    cases k with
    | zero => simp at hy hz; subst hy; subst hz; exact rx
    | succ k => simp at hy
  cases rx with
  | @agg cs vs hl h =>
    refine ⟨by simpa [VV.cells, Value.cells] using hl, fun k y z hy hz => ?_⟩
    have := h k y hy
    rw [Array.getD_eq_getD_getElem?] at this
    simp only [Value.cells,Array.getElem?_toList] at hz
    rw [hz] at this
    exact this
  | c h => 
    cases h with
    | dead => simp [VV.cells,takeVs,takeV] at hx
    | int => exact one rfl rfl
    | bool => exact one rfl rfl
    | str => exact one rfl rfl
    | nil => exact one rfl rfl
    | list => exact one rfl rfl
    | held h => cases h <;> exact one rfl rfl
  | nils => exact one rfl rfl
  | al hn hs hv hm => obtain ⟨a, cap, rfl, _⟩ := hv; exact one rfl rfl
  | ptr => simp [VV.cells,takeVs,takeV] at hx
  | tup => simp [VV.cells,takeVs,takeV] at hx
  | rop => simp [VV.cells,takeVs,takeV] at hx
  | bxv => simp [VV.cells,takeVs,takeV] at hx
  | fn => simp [VV.cells,takeVs,takeV] at hx
  | undef => simp [VV.cells,takeVs,takeV] at hx
theorem chunks_one (ys : List T) : chunks ys ys.length 1 = [ys] := by
  simp [chunks,chunk,List.range_succ]
theorem box_sound {P : Program} {w ow bs st} {fr : Nat → Prop} {fid : Nat} {e : TypeId} {x : VV} {v : Value} {ys u} (h : Rel w ow bs st fr) (hroom : Room fr fid) (rx : RelV w ow bs st fr x v) (hx : takeVs st x.cells = some (ys, u)) (hlen : ys.length ≤ 1000) :
    Does w ow bs st fr (fun y => fr y ∧ ¬ Mine fid y) ((do pure (Next.value (← Instr.box e v)) : Sem Next).run P w) (.ptr fid [] 0 0 0) (st.ups (u ++ [(fid, some ⟨true, ys.length, [ys], []⟩)])) := by
  have hl := takeVs_length hx
  obtain ⟨h1, h2⟩ := cells_rel rx hx
  obtain ⟨ow', bs', g1, g2, g3, g4⟩ := newRow_sound (fid := fid) (n := 1) (sz := ys.length) (cap := 1) h hx h1 h2 (fun c hc => hroom c (by omega)) (fr' := fun y => fr y ∧ ¬ Mine fid y) (fun y hy => ⟨hy.1, fun e => hy.2 ⟨e.1, by omega⟩⟩) (by omega) e (0, 0) v.cells
    (fun k z hz => by rw [Array.getD_eq_getD_getElem?, ← Array.getElem?_toList, hz]; rfl) (Nat.le_refl _) (by simp at h1; omega) ⟨by simp, fun k _ hk => by omega⟩ true (fun _ => ⟨rfl, rfl⟩)
  rw [chunks_one] at g1 g3
  refine ⟨.pointer (some ⟨w.heap.size, 0, none⟩), _, ow', bs', .inl ?_, g1, ?_, g2, g3⟩
  · simp [Instr.box,newVar,newRow]
  · refine .ptr (fun e => e.2 ⟨Nat.le_refl _, by omega⟩) (fun _ => ⟨_, _, _, by rw [g4], by simp⟩) ⟨_, rfl, rfl⟩ (fun R hR => Nat.zero_le _)
/-! ### zero values -/
theorem sameZero_rel {w ow} {x : T} {v : Value} (h : sameZero x v = true) : RepR w ow x v ∨ (∃ s, x = .list true s [] ∧ v = .slice none 0 0) := by
  cases x <;> cases v <;> simp only [sameZero,Bool.false_eq_true] at h <;> try (cases h; done)
  · rename_i k n k' n'
    simp only [Bool.and_eq_true,beq_iff_eq] at h
    obtain ⟨rfl, rfl⟩ := h
    exact .inl .int
  · rename_i a b
    simp only [beq_iff_eq] at h
    subst h
    exact .inl .bool
  · rename_i a b
    simp only [beq_iff_eq] at h
    obtain ⟨a⟩ := a
    obtain ⟨b⟩ := b
    simp only at h
    subst h
    exact .inl .str
  · rename_i o s es a l c
    split at h
    · rename_i heq1 heq2; cases heq1
    · rename_i heq1 heq2; cases heq1
    · rename_i heq1 heq2; cases heq1
    · rename_i heq1 heq2
      cases heq1; cases heq2
      exact .inr ⟨_, rfl, rfl⟩
    · cases h
theorem zeroT_some {P : Program} {t : TypeId} {zs : List T} (h : zeroT P t = some zs) (w : World) : ∃ z, (zeroValue t).run P w = .ok z w ∧ zs.length = z.cells.size ∧ zs.length = P.cellsOf t ∧
    ∀ (k : Nat) (x : T), zs[k]? = some x → sameZero x (z.cells.getD k undef) = true := by
  unfold zeroT at h
  split at h
  · rename_i cs z h1 h2
    split at h
    · rename_i hc
      simp only [Option.some.injEq] at h
      subst h
      simp only [Bool.and_eq_true,beq_iff_eq,List.all_eq_true] at hc
      obtain ⟨⟨hc1, hc2⟩, hc3⟩ := hc
      cases hi : P.info? t with
      | none => rw [hi] at h2; simp at h2
      | some i =>
        rw [hi] at h2
        simp only [Option.bind_some] at h2
        refine ⟨z, by simp [zeroValue,run_typeInfo w hi,h2], hc1, hc3, fun k x hx => ?_⟩
        have hk := lt_of_getl hx
        have hz : z.cells.toList[k]? = some (z.cells.getD k undef) := by
          rw [Array.getElem?_toList, Array.getD_eq_getD_getElem?, Array.getElem?_eq_getElem (by omega)]; rfl
        refine hc2 (x, z.cells.getD k undef) ?_
        refine List.mem_of_getElem? (i := k) ?_
        rw [List.getElem?_zip_eq_some]
        exact ⟨hx, hz⟩
    · cases h
  · cases h
/-- A new row of zero values. -/
theorem zeros_sound {w : World} {ow bs st} {fr : Nat → Prop} {fid : Nat} (h : Rel w ow bs st fr) (hroom : Room fr fid) {zs : List T} {n cap : Nat} {c : Array Value} {e : TypeId}
    (hc : ∀ (i k : Nat) (x : T), i < n → zs[k]? = some x → sameZero x (c.getD (i * zs.length + k) undef) = true) (hcap : n ≤ cap) (hsz : cap * zs.length ≤ c.size) (box : Bool) (hbox : box = true → n = 1 ∧ cap = 1) :
    ∃ ow' bs', Rel (w.alloc (.cells c e)) ow' bs' (st.ups [(fid, some ⟨box, zs.length, List.replicate n zs, []⟩)]) (fun y => fr y ∧ ¬ Mine fid y) ∧ Steady w ow (w.alloc (.cells c e)) ow' ∧
      Quiet bs st fr bs' (st.ups [(fid, some ⟨box, zs.length, List.replicate n zs, []⟩)]) (fun y => fr y ∧ ¬ Mine fid y) ∧ bs' (fid, []) = (zs.length, .slice (some ⟨w.heap.size, 0, none⟩) n cap) := by
  have hf0 : fr fid := by have := hroom 0 (by omega); simpa using this
  obtain ⟨k1, k2, k3⟩ := h.alloc (r := fid) hf0 (sz := zs.length) (rows := List.replicate n zs) (cap := cap) (c := c) (e := e) (z := (0, 0)) box hsz ⟨by simp, fun k _ hk => by omega⟩ (by simpa using hcap)
    (fun i row hi => by
      rw [List.getElem?_replicate] at hi
      split at hi
      · simp only [Option.some.injEq] at hi; rw [← hi]
      · cases hi)
    (fun i row j x hi hj => by
      rw [List.getElem?_replicate] at hi
      split at hi
      · rename_i hin
        simp only [Option.some.injEq] at hi
        subst hi
        exact sameZero_rel (hc i j x hin hj)
      · cases hi)
    (fun hb => by simpa using hbox hb)
  have hsub : ∀ x, (fr x ∧ ¬ Mine fid x) → fr x ∧ x ≠ fid := fun x hx => ⟨hx.1, fun e => hx.2 (by rw [e]; exact ⟨Nat.le_refl _, by omega⟩)⟩
  refine ⟨_, _, k1.shrink hsub, k2, k3.trans (Quiet.shrink hsub), by simp [newBase]⟩
theorem alloc_sound {P : Program} {w ow bs st} {fr : Nat → Prop} {fid : Nat} {e : TypeId} {zs : List T} (h : Rel w ow bs st fr) (hroom : Room fr fid) (hz : zeroT P e = some zs) :
    Does w ow bs st fr (fun y => fr y ∧ ¬ Mine fid y) ((do pure (Next.value (← Instr.alloc e true (.tuple #[]))) : Sem Next).run P w) (.ptr fid [] 0 0 0) (st.ups [(fid, some ⟨true, zs.length, [zs], []⟩)]) := by
  obtain ⟨z, hz1, hz2, hz3, hz4⟩ := zeroT_some hz w
  obtain ⟨ow', bs', g1, g2, g3, g4⟩ := zeros_sound (fid := fid) h hroom (zs := zs) (n := 1) (cap := 1) (c := z.cells) (e := e) (fun i k x hi hx => by
    have : i = 0 := by omega
    subst this
    simpa using hz4 k x hx) (Nat.le_refl _) (by omega) true (fun _ => ⟨rfl, rfl⟩)
  refine ⟨.pointer (some ⟨w.heap.size, 0, none⟩), _, ow', bs', .inl ?_, g1, ?_, g2, g3⟩
  · simp [Instr.alloc,hz1,newVar,newRow]
  · exact .ptr (fun e => e.2 ⟨Nat.le_refl _, by omega⟩) (fun _ => ⟨_, _, _, by rw [g4], by simp⟩) ⟨_, rfl, rfl⟩ (fun R hR => Nat.zero_le _)
/-! ### a store -/
theorem store_op_sound {P : Program} {w ow bs st} {fr : Nat → Prop} {fid : Nat} {t : TypeId} {r p m i j} {x : VV} {va vx : Value} {u : Ups} (h : Rel w ow bs st fr) (hroom : Room fr fid) (ra : RelV w ow bs st fr (.ptr r p m i j) va) (rx : RelV w ow bs st fr x vx)
    (hlen : x.cells.length = P.cellsOf t) (hpos : P.cellsOf t ≠ 0) (hmax : x.cells.length ≤ 1000) (hs : storeV st r p m i j x.cells = some u) :
    Does w ow bs st fr (fun y => fr y ∧ ¬ Mine fid y) ((do Instr.storeAt t va vx; pure Next.skip : Sem Next).run P w) .undef (st.ups u) := by
  unfold storeV at hs
  split at hs
  · rename_i R0 hs0
    obtain ⟨R0, sz0, rows0⟩ := R0
    split at hs
    · rename_i ys u1 hx
      split at hs
      · rename_i R sz rows hs1
        split at hs
        · rename_i hfit
          simp only [Option.some.injEq] at hs
          subst hs
          obtain ⟨h1, h2⟩ := cells_rel rx hx
          have hyl := takeVs_length hx
          obtain ⟨owB, bsB, stB, g1, g2, g3, g4, g5, g6, g7, g8⟩ := takeVs_sound x.cells vx.cells.toList ys u1 (fid + 1) h (fun k hk => by have := hroom (k + 1) (by omega); rwa [show fid + (k + 1) = fid + 1 + k from by omega] at this) (fun _ _ => rfl) (Quiet.refl _ _ _) (Kept.refl _ _) hx h1 h2
          cases ra with
          | @ptr _ _ _ _ _ _ hnf hp hv hm =>
          obtain ⟨a, l, cap, hb, rfl⟩ := hp (seek_still hs0)
          obtain ⟨hr1, hf1, hn1⟩ := seek_some hs1
          have hrB : stB r = some R := (g4 r hnf).trans hr1
          obtain ⟨_, hbeq⟩ := g3.at hnf hm (.inr ⟨R, hrB, hf1⟩)
          have hrow : rows[i]? = some (rows.getD i []) := by rw [List.getD_eq_getElem?_getD, List.getElem?_eq_getElem hfit.1]; rfl
          have hj0 : j < (rows.getD i []).length := by omega
          obtain ⟨a', len', cap', c, e, z, hbs, spot, own, blk, free, hlen', hcap', fits, hrl, hlt, hxx⟩ := g1.place hrB hn1 hrow (List.getElem?_eq_getElem hj0)
          have hsz : (bs (r, p)).1 = sz := by rw [← hbeq, hbs]
          have hbB : (bsB (r, p)).2 = .slice (some a) l cap := by rw [hbeq]; exact hb
          have ht0 : ∀ k, k < ys.length → fid + 1 + k ≠ r := fun k hk e => hnf (by
            have := hroom (k + 1) (by omega)
            rw [← e]; rwa [show fid + (k + 1) = fid + 1 + k from by omega] at this)
          obtain ⟨w', ow', bs', st', q1, q2, q3, q4, q5, q6, q7⟩ := store_sound (P := P) ⟨a.block, a.off + i * (bs (r, p)).1 + j, none⟩ rfl ys vx.cells.toList 0 (fid + 1) g1 hrB hn1 hrow (j0 := j) (by omega) hbB rfl (by rw [hsz]) (by omega) ht0
            (fun k y v hy hv => g6 k y v hy hv)
          have hV : ∀ y R1, ¬ fr y → (st.ups (u1 ++ [(r, some { R with rows := modAt (setCells i j ys) R.rows p, log := R.log ++ filled p i j ys })])) y = some R1 → st' y = some R1 := by
            intro y R1 hfy hR1
            rw [St.ups_append, St.ups_cons, St.ups_nil] at hR1
            by_cases e : y = r
            · subst e
              rw [St.put_eq] at hR1
              rw [q5]; simpa using hR1
            · rw [St.put_ne _ _ e] at hR1
              rw [q6 y e (fun e' => hfy (by have := hroom (y - fid) (by omega); rwa [show fid + (y - fid) = y from by omega] at this)), g4 y hfy]
              exact hR1
          have hfree : ∀ y, fr y → (st.ups (u1 ++ [(r, some { R with rows := modAt (setCells i j ys) R.rows p, log := R.log ++ filled p i j ys })])) y = none := by
            intro y hfy
            rw [ups_other, h.free y hfy]
            intro r' R' hm' e
            rcases List.mem_append.1 hm' with hm' | hm'
            · exact g8 r' R' hm' (by rw [e]; exact hfy)
            · simp only [List.mem_singleton,Prod.mk.injEq] at hm'
              rw [hm'.1] at e
              exact hnf (by rw [e]; exact hfy)
          have hsubV : ∀ y R1, (st.ups (u1 ++ [(r, some { R with rows := modAt (setCells i j ys) R.rows p, log := R.log ++ filled p i j ys })])) y = some R1 → st' y = some R1 := by
            intro y R1 hR1
            refine hV y R1 (fun hfy => ?_) hR1
            rw [hfree y hfy] at hR1; cases hR1
          have hshrink : ∀ y, (fr y ∧ ¬ Mine fid y) → (fr y ∧ ¬ (fid + 1 ≤ y ∧ y < fid + 1 + x.cells.length)) := fun y hy => ⟨hy.1, fun e => hy.2 ⟨by omega, by omega⟩⟩
          refine ⟨undef, w', ow', bs', .inr ⟨?_, rfl⟩, (q2.sub hsubV).shrink hshrink, .undef, ?_, ?_⟩
          · have hc : vx.cells.size = P.cellsOf t := by rw [← hlen, h1]; simp
            simp only [Instr.storeAt,Instr.sureAddr,pure_bind,storeVar,Sem.run_bind,sizeOf_run hpos,Result.andThen_ok,hc,ne_eq,not_true_eq_false,if_false]
            rw [q1]; rfl
          · exact ⟨fun b hb0 hlt => by
              have e1 := g2 b hb0 hlt
              have e2 := q3.kept b e1.2 hlt
              exact ⟨e2.1, e2.2⟩, q3.size, q3.os, q3.tape, q3.output⟩
          · exact (g3.trans q4).to hV (fun y hy => hy.1)
        · cases hs
      · cases hs
    · cases hs
  · cases hs
end Go.VM
/- Struct values, literal slices, made slices, bytes and strings. -/
namespace Go.VM
/-- Cells, one by one. -/
def Each (R : VV → Value → Prop) (xs : List VV) (vs : Array Value) : Prop := xs.length = vs.size ∧ ∀ (k : Nat) (x : VV), xs[k]? = some x → R x (vs.getD k undef)
theorem solid_cells {w ow bs st fr} {x : VV} {v : Value} (rx : RelV w ow bs st fr x v) (hs : x.solid = true) : Each (RelV w ow bs st fr) x.cells v.cells := by
  have one : x.cells = [x] → v.cells = #[v] → Each (RelV w ow bs st fr) x.cells v.cells := by
    intro h1 h2
    rw [h1, h2]
    refine ⟨rfl, fun k y hy => ?_⟩
    cases k with
    | zero => simp at hy; subst hy; exact rx
    | succ k => simp at hy
  cases rx with
  | @agg cs vs hl h => exact ⟨hl, h⟩
  | c h =>
    cases h with
    | dead => simp [VV.solid] at hs
    | int => exact one rfl rfl
    | bool => exact one rfl rfl
    | str => exact one rfl rfl
    | nil => exact one rfl rfl
    | list => exact one rfl rfl
    | held h => cases h <;> exact one rfl rfl
  | nils => exact one rfl rfl
  | al hn hs hv hm => obtain ⟨a, cap, rfl, _⟩ := hv; exact one rfl rfl
  | ptr hn hs hv hm => obtain ⟨a, rfl, _⟩ := hv; exact one rfl rfl
  | tup => simp [VV.solid] at hs
  | rop => exact one rfl rfl
  | bxv => exact one rfl rfl
  | fn => exact one rfl rfl
  | undef => simp [VV.solid] at hs
theorem setFold_get (off : Nat) : ∀ (l : List Value) (k0 : Nat) (vs : Array Value) (m : Nat), ((l.zipIdx k0).foldl (fun cs (x : Value × Nat) => cs.setIfInBounds (off + x.2) x.1) vs)[m]? =
    if off + k0 ≤ m ∧ m < off + k0 + l.length ∧ m < vs.size then l[m - (off + k0)]? else vs[m]?
  | [], k0, vs, m => by simp; intro h1 h2; omega
  | x :: l, k0, vs, m => by
    simp only [List.zipIdx_cons,List.foldl_cons]
    rw [setFold_get off l (k0 + 1)]
    simp only [Array.size_setIfInBounds,List.length_cons]
    by_cases h0 : m = off + k0
    · subst h0
      rw [if_neg (by omega)]
      by_cases hs : off + k0 < vs.size
      · rw [if_pos (by omega), Array.getElem?_setIfInBounds_self_of_lt hs]; simp
      · rw [if_neg (by omega), Array.setIfInBounds_eq_of_size_le (by omega)]
    · by_cases h1 : off + (k0 + 1) ≤ m ∧ m < off + (k0 + 1) + l.length ∧ m < vs.size
      · rw [if_pos h1, if_pos (by omega)]
        rw [show m - (off + k0) = m - (off + (k0 + 1)) + 1 from by omega]
        simp
      · rw [if_neg h1, if_neg (by omega), Array.getElem?_setIfInBounds_ne (by omega)]
theorem setFold_size (off : Nat) : ∀ (l : List Value) (k0 : Nat) (vs : Array Value), ((l.zipIdx k0).foldl (fun cs (x : Value × Nat) => cs.setIfInBounds (off + x.2) x.1) vs).size = vs.size
  | [], k0, vs => by simp
  | x :: l, k0, vs => by simp only [List.zipIdx_cons,List.foldl_cons]; rw [setFold_size off l]; simp
theorem fill_rel {R : VV → Value → Prop} {place place' : Nat → Option (Nat × Nat)} (hp : ∀ i, place' i = place i) : ∀ (parts : List (Nat × VV)) (vparts : List (Nat × Value)) (cs : List VV) (vs : Array Value) (cs' : List VV),
    Each R cs vs → parts.length = vparts.length → (∀ (k : Nat) (x : Nat × VV) (v : Nat × Value), parts[k]? = some x → vparts[k]? = some v → x.1 = v.1 ∧ (x.2.solid = true → Each R x.2.cells v.2.cells)) →
    fillV place cs parts = some cs' → ∃ vs', Instr.fill place' vs vparts = some vs' ∧ Each R cs' vs'
  | [], vparts, cs, vs, cs', he, hl, hr, hf => by
    cases vparts with
    | cons v vp => simp at hl
    | nil =>
      simp only [fillV,Option.some.injEq] at hf
      subst hf
      exact ⟨vs, rfl, he⟩
  | (i, x) :: parts, vparts, cs, vs, cs', he, hl, hr, hf => by
    cases vparts with
    | nil => simp at hl
    | cons v vp =>
      obtain ⟨i', v⟩ := v
      obtain ⟨e1, e2⟩ := hr 0 (i, x) (i', v) (by simp) (by simp)
      simp only at e1 e2
      subst e1
      simp only [fillV] at hf
      cases hpl : place i with
      | none => rw [hpl] at hf; cases hf
      | some os =>
        obtain ⟨off, size⟩ := os
        rw [hpl] at hf
        simp only at hf
        split at hf
        · cases hf
        · rename_i hc
          simp only [not_or,Decidable.not_not,Bool.not_eq_false] at hc
          obtain ⟨c1, c2, c3⟩ := hc
          obtain ⟨hl2, hx2⟩ := e2 c3
          obtain ⟨hl1, hx1⟩ := he
          simp only [Instr.fill,hp,hpl]
          rw [if_neg (by simp only [ne_eq,Bool.or_eq_true,decide_eq_true_eq,not_or,Decidable.not_not]; omega)]
          refine fill_rel hp parts vp _ _ cs' ⟨?_, fun k y hy => ?_⟩ (by simpa using hl) (fun k x' v' hx' hv' => hr (k + 1) x' v' (by simpa using hx') (by simpa using hv')) hf
          · rw [← Array.foldl_toList, Array.toList_zipIdx, setFold_size]
            simp; omega
          · rw [Array.getD_eq_getD_getElem?, ← Array.foldl_toList, Array.toList_zipIdx, setFold_get]
            simp only [Nat.add_zero,Array.length_toList]
            rw [List.append_assoc] at hy
            by_cases h0 : k < off
            · rw [List.getElem?_append_left (by simp; omega), List.getElem?_take, if_pos h0] at hy
              rw [if_neg (by omega), ← Array.getD_eq_getD_getElem?]
              exact hx1 k y hy
            · rw [List.getElem?_append_right (by simp; omega)] at hy
              simp only [List.length_take,Nat.min_eq_left (show off ≤ cs.length by omega)] at hy
              by_cases h1 : k < off + x.cells.length
              · rw [List.getElem?_append_left (by omega)] at hy
                rw [if_pos (by omega)]
                have := hx2 _ y hy
                rw [Array.getD_eq_getD_getElem?, ← Array.getElem?_toList] at this
                exact this
              · rw [List.getElem?_append_right (by omega), List.getElem?_drop] at hy
                rw [if_neg (by omega), ← Array.getD_eq_getD_getElem?]
                have := hx1 _ y hy
                rwa [show off + x.cells.length + (k - off - x.cells.length) = k from by omega] at this
theorem zeroV_rel {w ow bs st fr} {x : T} {v : Value} (h : sameZero x v = true) : RelV w ow bs st fr (zeroV x) v := by
  rcases sameZero_rel (w := w) (ow := ow) h with hr | ⟨s, rfl, rfl⟩
  · cases hr with
    | dead => simp [sameZero] at h
    | int => exact .c .int
    | bool => exact .c .bool
    | str => exact .c .str
    | nil => exact .c .nil
    | list spot own blk hlen hcap fits rows cells => exact .c (.list spot own blk hlen hcap fits rows cells)
    | held h => simp [sameZero] at *
  · exact .nils
theorem zeros_each {P : Program} {w ow bs st fr} {t : TypeId} {zs : List T} {z : Value} (hl : zs.length = z.cells.size) (h : ∀ (k : Nat) (x : T), zs[k]? = some x → sameZero x (z.cells.getD k undef) = true) : Each (RelV w ow bs st fr) (zs.map zeroV) z.cells := by
  refine ⟨by simpa using hl, fun k x hx => ?_⟩
  rw [List.getElem?_map] at hx
  obtain ⟨y, hy, rfl⟩ := Option.map_eq_some_iff.1 hx
  exact zeroV_rel (h k y hy)
theorem mapM_fields {P : Program} (w : World) : ∀ (fs : List Field), fs.all (fun f => (P.info? f.type).isSome) = true →
    (fs.mapM (fun f => do pure (f.offset, ← sizeOf f.type) : Field → Sem (Nat × Nat))).run P w = .ok (fs.map fun f => (f.offset, P.cellsOf f.type)) w
  | [], _ => rfl
  | f :: fs, h => by
    simp only [List.all_cons,Bool.and_eq_true] at h
    obtain ⟨i, hi⟩ := Option.isSome_iff_exists.1 h.1
    have ih := mapM_fields w fs h.2
    simp at ih
    simp [List.mapM_cons,run_sizeOf w hi,ih]
theorem build_sound {P : Program} {w ow bs st} {fr : Nat → Prop} {env : Nat → VV} {a : Act} (he : RelE w ow bs st fr env a) {t : TypeId} {parts : Array (Nat × Operand)} {z : List T} {pl cs} (hz : zeroT P t = some z) (hpl : placesT P t = some pl)
    (hf : fillV (fun i => (pl[i]?).map fun q => (q.1, q.2.1)) (z.map zeroV) (parts.toList.map fun q => (q.1, ev P env (((pl[q.1]?).map fun q => q.2.2).getD 0) q.2)) = some cs) :
    ∃ v, (Instr.build t (parts.map fun (i, x) => (i, a.eval x))).run P w = .ok v w ∧ RelV w ow bs st fr (.agg cs) v := by
  obtain ⟨zv, hz1, hz2, hz3, hz4⟩ := zeroT_some hz w
  unfold placesT at hpl
  split at hpl
  · rename_i fs hu
    split at hpl
    · rename_i hall
      simp only [Option.some.injEq] at hpl
      subst hpl
      have hm : (fs.mapM (fun f => do pure (f.offset, ← sizeOf f.type) : Field → Sem (Nat × Nat))).run P w = .ok (fs.map fun f => (f.offset, P.cellsOf f.type)) w := by
        rw [Array.mapM_eq_mapM_toList]
        simp only [Sem.run_map,mapM_fields w fs.toList hall,Result.andThen_ok]
        congr 1
        apply Array.ext'
        simp
      obtain ⟨vs', h1, h2⟩ := fill_rel (R := RelV w ow bs st fr) (place' := fun i => (fs.map fun f => (f.offset, P.cellsOf f.type))[i]?) (fun i => by simp [List.getElem?_map,Array.getElem?_map]; cases fs[i]? <;> rfl)
        _ (parts.map fun (i, x) => (i, a.eval x)).toList (z.map zeroV) zv.cells cs (zeros_each (P := P) (t := t) hz2 hz4) (by simp) (fun k x v hx hv => by
          simp only [List.getElem?_map] at hx
          obtain ⟨q, hq, rfl⟩ := Option.map_eq_some_iff.1 hx
          simp only [Array.toList_map,List.getElem?_map] at hv
          obtain ⟨q', hq', rfl⟩ := Option.map_eq_some_iff.1 hv
          rw [hq] at hq'
          cases hq'
          exact ⟨rfl, fun hs => solid_cells (ev_rel he _ _) hs⟩) hf
      refine ⟨.agg vs', ?_, .agg h2.1 h2.2⟩
      simp only [Instr.build,Sem.run_bind,hz1,Result.andThen_ok,run_underlying hu,hm,h1]
      simp [h1]
    · cases hpl
  · cases hpl
theorem flatten_get {α : Type} (l : List α) (n m : Nat) (h : m < n * l.length) : ((List.replicate n l).flatten)[m]? = l[m % l.length]? := by
  induction n generalizing m with
  | zero => omega
  | succ n ih =>
    rw [List.replicate_succ, List.flatten_cons]
    by_cases hm : m < l.length
    · rw [List.getElem?_append_left hm, Nat.mod_eq_of_lt hm]
    · rw [List.getElem?_append_right (by omega), ih _ (by rw [Nat.add_mul] at h; omega), ← Nat.mod_eq_sub_mod (by omega)]
theorem zrange_get (z : Array Value) (n k : Nat) (h : k < n) (hz : k % z.size < z.size) : ((Array.range n).map (fun i => z[i % z.size]!)).getD k undef = z.getD (k % z.size) undef := by
  rw [Array.getD_eq_getD_getElem?, Array.getD_eq_getD_getElem?, Array.getElem?_map, Array.getElem?_range]
  simp [h,hz]
theorem buildSlice_sound {P : Program} {w ow bs st} {fr : Nat → Prop} {fid : Nat} {env : Nat → VV} {a : Act} (h : Rel w ow bs st fr) (hroom : Room fr fid) (he : RelE w ow bs st fr env a) {t e : TypeId} {len : Nat} {parts : Array (Nat × Operand)} {z : List T} {cs ys u}
    (ht : elemT P t = some e) (hz : zeroT P e = some z) (hmax : len * P.cellsOf e ≤ 1000)
    (hf : fillV (fun i => some (i * P.cellsOf e, P.cellsOf e)) ((List.replicate len (z.map zeroV)).flatten) (parts.toList.map fun q => (q.1, ev P env e q.2)) = some cs) (hx : takeVs st cs = some (ys, u)) :
    Does w ow bs st fr (fun y => fr y ∧ ¬ Mine fid y) ((do pure (Next.value (← Instr.buildSlice t len (parts.map fun (i, x) => (i, a.eval x)))) : Sem Next).run P w) (.al fid [] 0 (P.cellsOf e) 0 len)
      (st.ups (u ++ [(fid, some ⟨false, P.cellsOf e, (List.range len).map fun i => (ys.drop (i * P.cellsOf e)).take (P.cellsOf e), []⟩)])) := by
  obtain ⟨zv, hz1, hz2, hz3, hz4⟩ := zeroT_some hz w
  obtain ⟨hu, hne⟩ := elemT_some ht
  generalize hsz : P.cellsOf e = sz at *
  have hzs : zv.cells.size = sz := by omega
  generalize hzero : (if len * sz = 0 then #[] else zv.cells : Array Value) = zc
  have hzc : ∀ m, m < len * sz → zc = zv.cells := fun m hm => by rw [← hzero, if_neg (by omega)]
  have each0 : Each (RelV w ow bs st fr) ((List.replicate len (z.map zeroV)).flatten) ((Array.range (len * sz)).map (fun i => zc[i % zc.size]!)) := by
    refine ⟨by simp [hz3], fun k x hx => ?_⟩
    have hk : k < len * sz := by have := lt_of_getl hx; simp at this; rw [hz3] at this; exact this
    rw [flatten_get _ _ _ (by simpa [hz3] using hk)] at hx
    have hzck := hzc k hk
    rw [hzck]
    have hlt : k % zv.cells.size < zv.cells.size := Nat.mod_lt _ (by omega)
    rw [zrange_get _ _ _ hk hlt]
    rw [List.getElem?_map] at hx
    obtain ⟨y, hy, rfl⟩ := Option.map_eq_some_iff.1 hx
    simp only [List.length_map] at hy
    rw [show z.length = zv.cells.size from by omega] at hy
    exact zeroV_rel (hz4 _ y hy)
  obtain ⟨vs', h1, h2⟩ := fill_rel (R := RelV w ow bs st fr) (place' := fun i => some (i * sz, sz)) (fun i => rfl) _ (parts.map fun (i, x) => (i, a.eval x)).toList _ _ cs each0 (by simp) (fun k x v hx hv => by
      simp only [List.getElem?_map] at hx
      obtain ⟨q, hq, rfl⟩ := Option.map_eq_some_iff.1 hx
      simp only [Array.toList_map,List.getElem?_map] at hv
      obtain ⟨q', hq', rfl⟩ := Option.map_eq_some_iff.1 hv
      rw [hq] at hq'
      cases hq'
      exact ⟨rfl, fun hs => solid_cells (ev_rel he _ _) hs⟩) hf
  have hcl : cs.length = len * sz := by
    have : ∀ (parts : List (Nat × VV)) (cs cs' : List VV) (place : Nat → Option (Nat × Nat)), fillV place cs parts = some cs' → cs'.length = cs.length := by
      intro parts
      induction parts with
      | nil => intro cs cs' place h; simp only [fillV,Option.some.injEq] at h; rw [h]
      | cons p parts ih =>
        obtain ⟨i, x⟩ := p
        intro cs cs' place h
        simp only [fillV] at h
        split at h
        · cases h
        · split at h
          · cases h
          · rename_i hc
            simp only [not_or] at hc
            rw [ih _ _ _ h]
            simp; omega
    rw [this _ _ _ _ hf]
    simp [hz3]
  have hvl : vs'.toList.length = cs.length := by rw [h2.1]; simp
  obtain ⟨ow', bs', g1, g2, g3, g4⟩ := newRow_sound (fid := fid) (n := len) (sz := sz) (cap := len) (vs := vs'.toList) h hx hvl.symm (fun k x v hx' hv => by
      have := h2.2 k x hx'
      rw [Array.getD_eq_getD_getElem?, ← Array.getElem?_toList, hv] at this
      exact this) (fun c hc => hroom c (by omega)) (fr' := fun y => fr y ∧ ¬ Mine fid y) (fun y hy => ⟨hy.1, fun e => hy.2 ⟨e.1, by omega⟩⟩) hcl e (0, 0) vs'
    (fun k v hv => by rw [Array.getD_eq_getD_getElem?, ← Array.getElem?_toList, hv]; rfl) (Nat.le_refl _) (by rw [← h2.1]; omega) ⟨by simp, fun k _ hk => by omega⟩ false (fun hb => by cases hb)
  refine ⟨.slice (some ⟨w.heap.size, 0, none⟩) len len, _, ow', bs', .inl ?_, g1, ?_, g2, g3⟩
  · simp only [Instr.buildSlice, Sem.run_bind, run_underlying hu, Result.andThen_ok, sizeOf_run (by rw [hsz]; exact hne) w, hsz]
    rw [if_neg (by omega)]
    by_cases hl0 : len * sz = 0
    · rw [if_pos hl0] at hzero ⊢
      subst hzero
      simp only [Sem.run_bind,Sem.run_pure,Result.andThen_ok]
      rw [h1]
      simp [newRow]
    · rw [if_neg hl0] at hzero ⊢
      subst hzero
      simp only [Sem.run_bind,Sem.run_pure,Result.andThen_ok,hz1]
      rw [h1]
      simp [newRow]
  · exact .al (fun e => e.2 ⟨Nat.le_refl _, by omega⟩) (fun _ => ⟨by rw [g4], by rw [g4]; exact .inl ⟨_, _, _, 0, len, rfl, rfl, .inr (by simp), by simp, Nat.le_refl _, by omega, .inr (by simp)⟩⟩)
      ⟨_, _, rfl, Nat.le_refl _, (fun e => by cases e), (fun b e => by cases e; rfl)⟩ (fun R hR => Nat.zero_le _)
end Go.VM
/- Made slices, bytes and strings, and what grows. -/
namespace Go.VM
theorem Kept.heap {w w' : World} {ow : Own} (hw : w'.heap = w.heap) : Kept w ow w' ow := fun b hb _ => ⟨by rw [hw], hb⟩
theorem Rel.heap {w w' ow bs st fr} (h : Rel w ow bs st fr) (hw : w'.heap = w.heap) : Rel w' ow bs st fr :=
  ⟨fun r R hr => (h.root r R hr).move (Kept.heap hw) ⟨fun b q hq => ⟨by rw [hw], hq⟩, fun _ => rfl⟩, h.box, fun b ℓ hb => ⟨(h.own b ℓ hb).1, by rw [hw]; exact (h.own b ℓ hb).2⟩, h.free⟩
theorem makeSlice_sound {P : Program} {w ow bs st} {fr : Nat → Prop} {fid : Nat} (h : Rel w ow bs st fr) (hroom : Room fr fid) {t e : TypeId} {n k : Int} {z : List T} {q1 q2 : IntKind}
    (ht : elemT P t = some e) (hz : zeroT P e = some z) (h0 : 0 ≤ n) (hnk : n ≤ k) (hmax : k * (P.bytesOf e + 1) ≤ bigRow) :
    Does w ow bs st fr (fun y => fr y ∧ ¬ Mine fid y) ((do pure (Next.value (← Instr.makeSlice t (.int q1 n) (.int q2 k))) : Sem Next).run P w) (.al fid [] 0 (P.cellsOf e) 0 n.toNat)
      (st.ups [(fid, some ⟨false, P.cellsOf e, List.replicate n.toNat z, []⟩)]) := by
  obtain ⟨zv, hz1, hz2, hz3, hz4⟩ := zeroT_some hz w
  obtain ⟨hu, hne⟩ := elemT_some ht
  obtain ⟨i, hi⟩ := info_of_cells hne
  have hbytes : P.bytesOf e = i.bytes := by simp [Program.bytesOf,hi]
  have hk0 : 0 ≤ k := by omega
  have hb0 : (0 : Int) ≤ (P.bytesOf e : Int) := Int.natCast_nonneg _
  have hkb : k ≤ bigRow := by
    have : k * 1 ≤ k * (P.bytesOf e + 1) := Int.mul_le_mul_of_nonneg_left (by omega) hk0
    omega
  have hkb2 : (P.bytesOf e : Int) * k ≤ bigRow := by
    have : k * P.bytesOf e ≤ k * (P.bytesOf e + 1) := Int.mul_le_mul_of_nonneg_left (by omega) hk0
    rw [Int.mul_comm]; omega
  have hwrap : ∀ m : Int, 0 ≤ m → m ≤ k → IntKind.i64.wrap m = m := by
    intro m h1 h2
    unfold bigRow at hkb
    exact IntWalk.i64_in m (by omega)
  generalize hzero : (if k.toNat * P.cellsOf e = 0 then #[] else zv.cells : Array Value) = zc
  have hzc : ∀ m, m < k.toNat * P.cellsOf e → zc = zv.cells := fun m hm => by rw [← hzero, if_neg (by omega)]
  obtain ⟨ow', bs', g1, g2, g3, g4⟩ := zeros_sound (fid := fid) h hroom (zs := z) (n := n.toNat) (cap := k.toNat) (c := (Array.range (k.toNat * P.cellsOf e)).map (fun i => zc[i % zc.size]!)) (e := e) (fun a b x ha hx => by
      have hbl := lt_of_getl hx
      have hfit : (a + 1) * z.length ≤ k.toNat * z.length := Nat.mul_le_mul_right _ (by omega)
      rw [Nat.add_mul] at hfit
      have hlt : a * z.length + b < k.toNat * P.cellsOf e := by rw [← hz3]; omega
      rw [hzc _ hlt]
      have hmod : (a * z.length + b) % zv.cells.size = b := by rw [← hz2, Nat.mul_comm, Nat.mul_add_mod, Nat.mod_eq_of_lt hbl]
      rw [zrange_get _ _ _ hlt (by rw [hmod]; omega), hmod]
      exact hz4 b x hx) (by omega) (by simp [hz3]) false (fun hb => by cases hb)
  rw [hz3] at g1 g3 g4
  refine ⟨.slice (some ⟨w.heap.size, 0, none⟩) n.toNat k.toNat, _, ow', bs', .inl ?_, g1, ?_, g2, g3⟩
  · have hz' : ((if k.toNat * P.cellsOf e = 0 then pure #[] else do pure (← zeroValue e).cells : Sem (Array Value))).run P w = .ok zc w := by
      rw [← hzero]
      split <;> simp [hz1]
    unfold bigRow at hkb2
    simp only [Instr.makeSlice,Sem.run_bind,run_underlying hu,Result.andThen_ok,asInt,asIntOf,Sem.run_pure,pure_bind,run_typeInfo w hi]
    rw [hwrap n h0 hnk, hwrap k hk0 (Int.le_refl _), ← hbytes]
    have c1 : ((decide (k < 0) || decide ((P.bytesOf e : Int) * k > 2 ^ 48)) || decide (n < 0) || decide (n > k)) = false := by
      simp only [Bool.or_eq_false_iff,decide_eq_false_iff_not]
      omega
    rw [c1]
    simp only [Bool.false_eq_true,if_false,Sem.run_bind,run_askRoom,Result.andThen_ok,sizeOf_run hne w]
    by_cases hl0 : k.toNat * P.cellsOf e = 0
    · rw [if_pos hl0] at hzero ⊢
      subst hzero
      simp [newRow]
    · rw [if_neg hl0] at hzero ⊢
      subst hzero
      simp [newRow,hz1]
  · exact .al (fun e => e.2 ⟨Nat.le_refl _, by omega⟩) (fun _ => ⟨by rw [g4], by rw [g4]; exact .inl ⟨_, _, _, 0, k.toNat, rfl, rfl, .inr (by simp), by simp, by omega, by omega, .inr (by simp)⟩⟩)
      ⟨_, _, rfl, by omega, (fun e => by cases e), (fun b e => by cases e; rfl)⟩ (fun R hR => Nat.zero_le _)
/-! ### rows that are read -/
theorem rows_rel {w ow bs st fr} (h : Rel w ow bs st fr) {x : VV} {v : Value} {sz : Nat} {rows : List (List T)} (rx : RelV w ow bs st fr x v) (hx : rowsOf st x = some (sz, rows)) :
    ∃ a cap, v = .slice a rows.length cap ∧ rows.length ≤ cap ∧ (rows = [] ∨ ∃ b c e z, a = some b ∧ b.spot = none ∧ w.heap[b.block]? = some (.cells c e z) ∧ b.off + rows.length * sz ≤ c.size ∧ (∀ (i : Nat) (row : List T), rows[i]? = some row → row.length = sz) ∧
      ∀ (i : Nat) (row : List T) (j : Nat) (y : T), rows[i]? = some row → row[j]? = some y → isOwn y = false → RepR w ow y (c.getD (b.off + i * sz + j) undef)) := by
  unfold rowsOf at hx
  split at hx
  · simp only [Option.some.injEq,Prod.mk.injEq] at hx
    obtain ⟨rfl, rfl⟩ := hx
    cases rx
    exact ⟨none, 0, rfl, Nat.le_refl _, .inl rfl⟩
  · simp only [Option.some.injEq,Prod.mk.injEq] at hx
    obtain ⟨rfl, rfl⟩ := hx
    cases rx with
    | c rx =>
    cases rx with
    | nil => exact ⟨_, _, rfl, Nat.zero_le _, .inl rfl⟩
    | @list a _ _ len cap c e z spot own blk hlen hcap fits rows cells =>
      subst hlen
      exact ⟨_, _, rfl, hcap, .inr ⟨a, c, e, z, rfl, spot, blk, fits, rows, fun i row j y h1 h2 _ => cells i row j y h1 h2⟩⟩
  · rename_i r p m sz0 off len
    split at hx
    · rename_i R sz' rows0 hs
      split at hx
      · rename_i hc
        simp only [Option.some.injEq,Prod.mk.injEq] at hx
        obtain ⟨rfl, rfl⟩ := hx
        obtain ⟨hle, rfl⟩ := hc
        obtain ⟨hr, hf, hn⟩ := seek_some hs
        cases rx with
        | @al _ _ _ _ _ _ _ hnf hsub hv hm =>
        obtain ⟨a, cap, rfl, hcap, hnone, hspot⟩ := hv
        have hlen : ((rows0.drop off).take len).length = len := by simp; omega
        refine ⟨a, cap, by rw [hlen], by omega, ?_⟩
        by_cases hl0 : len = 0
        · exact .inl (by rw [hl0]; simp)
        · right
          obtain ⟨hb, hsb⟩ := hsub (seek_still hs)
          rcases hsb with ⟨b, l, capb, o, cap', hbv, hv, ho, hfit, hle'⟩ | ⟨l, capb, _, h0, _⟩
          · simp only [Value.slice.injEq] at hv
            obtain ⟨rfl, _, rfl⟩ := hv
            have hp := (h.root r R hr).nav hn
            simp only [List.nil_append] at hp
            have hpb := hp.base
            rw [hbv] at hp
            cases hp with
            | ro h => cases h
            | @list _ _ _ _ _ _ c e z base spot own blk free hlen0 hcap0 fits hrows cells =>
              have ho : o = b.off + off * sz0 := by
                rcases ho with h' | h'
                · omega
                · exact h'
              have hmul : (off + len) * sz0 ≤ capb * sz0 := Nat.mul_le_mul_right _ (by omega)
              rw [Nat.add_mul] at hmul
              refine ⟨⟨b.block, o, none⟩, c, e, z, rfl, rfl, blk, by simp only [hlen]; omega, fun i row hi => ?_, fun i row j y hi hj hy => ?_⟩
              · rw [List.getElem?_take] at hi
                split at hi
                · rw [List.getElem?_drop] at hi; exact hrows _ _ hi
                · cases hi
              · rw [List.getElem?_take] at hi
                split at hi
                · rw [List.getElem?_drop] at hi
                  have := cells _ _ j y hi hj
                  simp only
                  rw [show o + i * sz0 + j = b.off + (off + i) * sz0 + j from by rw [ho, Nat.add_mul]; omega]
                  generalize c.getD (b.off + (off + i) * sz0 + j) undef = cv at this ⊢
                  cases this with
                  | ro h => exact h
                  | nil => cases hy
                  | list => cases hy
                · cases hi
          · omega
      · cases hx
    · cases hx
  · cases hx
/-! ### what grows -/
theorem Rel.regrow {w w' ow bs st fr} (h : Rel w ow bs st fr) {r sz : Nat} {ys xs : List (List T)} {log : List Path} {v : Value} (hr : st r = some ⟨false, sz, ys, log⟩) (hv : (bs (r, [])).2 = v)
    {nb o cap : Nat} {c : Array Value} {e : TypeId} {z : Nat × Nat} (hnb : w'.heap[nb]? = some (.cells c e z)) (hsize : w.heap.size ≤ w'.heap.size) (hsame : ∀ b, b < w.heap.size → b ≠ nb → w'.heap[b]? = w.heap[b]?)
    (hown : nb < w.heap.size → ow nb = some (r, []) ∧ ∃ a l cap0, v = .slice (some a) l cap0 ∧ a.block = nb) (free : Unfrozen z c.size) (hcap : ys.length + xs.length ≤ cap) (hfit : o + cap * sz ≤ c.size)
    (hold : ∀ (a : Addr) (l cap0 : Nat) (c0 : Array Value) (e0 : TypeId) (z0 : Nat × Nat), v = .slice (some a) l cap0 → w.heap[a.block]? = some (.cells c0 e0 z0) → ∀ k, k < ys.length * sz → c.getD (o + k) undef = c0.getD (a.off + k) undef)
    (hrows : ∀ (i : Nat) (row : List T), xs[i]? = some row → row.length = sz) (hnew : ∀ (i : Nat) (row : List T) (j : Nat) (y : T), xs[i]? = some row → row[j]? = some y → RepR w ow y (c.getD (o + (ys.length + i) * sz + j) undef)) :
    ∃ ow', Rel w' ow' (fun ℓ => if ℓ = (r, []) then (sz, .slice (some ⟨nb, o, none⟩) (ys.length + xs.length) cap) else bs ℓ) (st.put r (some ⟨false, sz, ys ++ xs, []⟩)) fr ∧ Kept w ow w' ow' := by
  have hrf := h.notfree hr
  generalize how : (fun b => if b = nb then some (r, []) else if ow b = some (r, []) then none else ow b : Own) = ow'
  have how1 : ow' nb = some (r, []) := by rw [← how]; simp
  have how2 : ∀ b ℓ, ow b = some ℓ → ℓ ≠ (r, []) → ow' b = some ℓ := by
    intro b ℓ hb hne
    rw [← how]
    have hbn : b ≠ nb := by
      intro e
      subst e
      by_cases hlt : b < w.heap.size
      · rw [(hown hlt).1] at hb; cases hb; exact hne rfl
      · exact hlt (h.own b ℓ hb).2
    simp only [hbn,if_false]
    rw [if_neg (by rw [hb]; exact fun e => hne (Option.some.inj e))]
    exact hb
  have hkept : Kept w ow w' ow' := by
    intro b hb hlt
    have hbn : b ≠ nb := by intro e; subst e; rw [(hown hlt).1] at hb; cases hb
    refine ⟨hsame b hlt hbn, ?_⟩
    rw [← how]; simp [hbn,hb]
  have hheap : ∀ b ℓ, ow b = some ℓ → ℓ ≠ (r, []) → w'.heap[b]? = w.heap[b]? := by
    intro b ℓ hb hne
    have hlt := (h.own b ℓ hb).2
    refine hsame b hlt ?_
    intro e; subst e
    rw [(hown hlt).1] at hb; cases hb; exact hne rfl
  have helem : ∀ (i j : Nat) (x : T) (u : Value), RepT w ow bs (r, [(i, j)]) x u → RepT w' ow' (fun ℓ => if ℓ = (r, []) then (sz, .slice (some ⟨nb, o, none⟩) (ys.length + xs.length) cap) else bs ℓ) (r, [(i, j)]) x u := by
    intro i j x u hx
    refine hx.move hkept ⟨fun b q hq => ⟨hheap b _ hq (by simp), how2 b _ hq (by simp)⟩, fun q => by simp⟩
  refine ⟨ow', ⟨fun r' R' hR' => ?_, fun r' R' hR' hb => ?_, fun b ℓ hb => ?_, fun r' hf => ?_⟩, hkept⟩
  · by_cases er : r' = r
    · subst er
      simp only [St.put_eq,Option.some.injEq] at hR'
      subst hR'
      simp only [if_true]
      have hroot := h.root r' _ hr
      rw [hv] at hroot
      simp only at hroot
      refine .list (by simp) rfl how1 hnb free (by simp) hcap hfit (fun i row hi => ?_) (fun i row j x hi hj => ?_)
      · by_cases hlt : i < ys.length
        · rw [List.getElem?_append_left hlt] at hi
          cases hroot with
          | ro h => cases h
          | nil => simp at hlt
          | list base spot own blk free hlen hcap fits hrw cells => exact hrw i row hi
        · rw [List.getElem?_append_right (by omega)] at hi
          exact hrows _ row hi
      · simp only
        by_cases hlt : i < ys.length
        · rw [List.getElem?_append_left hlt] at hi
          cases hroot with
          | ro h => cases h
          | nil => simp at hlt
          | @list _ a _ _ len cap0 c0 e0 z0 base spot own blk free hlen hcap0 fits hrw cells =>
            have hrl := hrw i row hi
            have hjl := lt_of_getl hj
            have hmul : (i + 1) * sz ≤ ys.length * sz := Nat.mul_le_mul_right _ hlt
            rw [Nat.add_mul] at hmul
            have := hold a _ _ c0 e0 z0 rfl blk (i * sz + j) (by omega)
            rw [show o + i * sz + j = o + (i * sz + j) from by omega, this, show a.off + (i * sz + j) = a.off + i * sz + j from by omega]
            exact helem i j x _ (cells i row j x hi hj)
        · rw [List.getElem?_append_right (by omega)] at hi
          have := hnew _ row j x hi hj
          rw [show ys.length + (i - ys.length) = i from by omega] at this
          exact .ro (this.mono hkept)
    · rw [St.put_ne _ _ er] at hR'
      have hne : ∀ q, ((r', q) : Loc) ≠ (r, []) := fun q e => er (by cases e; rfl)
      rw [if_neg (hne _)]
      refine (h.root r' R' hR').move hkept ⟨fun b q hq => ⟨hheap b _ hq (hne _), how2 b _ hq (hne _)⟩, fun q => if_neg (hne _)⟩
  · by_cases er : r' = r
    · subst er
      simp only [St.put_eq,Option.some.injEq] at hR'
      subst hR'
      cases hb
    · rw [St.put_ne _ _ er] at hR'
      rw [if_neg (fun e => er (by cases e; rfl))]
      exact h.box r' R' hR' hb
  · rw [← how] at hb
    simp only at hb
    split at hb
    · rename_i e'
      simp only [Option.some.injEq] at hb
      subst hb
      rw [e']
      exact ⟨hrf, lt_of_get hnb⟩
    · split at hb
      · cases hb
      · exact ⟨(h.own b ℓ hb).1, Nat.lt_of_lt_of_le (h.own b ℓ hb).2 hsize⟩
  · have : r' ≠ r := fun e => hrf (by rw [← e]; exact hf)
    rw [St.put_ne _ _ this]
    exact h.free r' hf
/-- Cells stored one behind the other. -/
theorem storeCells_raw {P : Program} (A : Addr) (hA : A.spot = none) : ∀ (vs : List Value) (k0 : Nat) {w : World} {c : Array Value} {e : TypeId} {z : Nat × Nat}, w.heap[A.block]? = some (.cells c e z) → Unfrozen z c.size → A.off + k0 + vs.length ≤ c.size → (∀ v ∈ vs, v.oneCell' = true) →
    ∃ w' c', (storeCells A vs k0).run P w = .ok () w' ∧ w'.heap[A.block]? = some (.cells c' e z) ∧ c'.size = c.size ∧ w'.heap.size = w.heap.size ∧ (∀ b, b ≠ A.block → w'.heap[b]? = w.heap[b]?) ∧ w'.os = w.os ∧ w'.tape = w.tape ∧ w'.output = w.output ∧
      (∀ k, k < vs.length → c'.getD (A.off + k0 + k) undef = vs.getD k undef) ∧ (∀ m, m < A.off + k0 ∨ A.off + k0 + vs.length ≤ m → c'.getD m undef = c.getD m undef)
  | [], k0, w, c, e, z, hb, hu, hl, ho => ⟨w, c, rfl, hb, rfl, rfl, fun _ _ => rfl, rfl, rfl, rfl, fun k hk => by simp at hk, fun _ _ => rfl⟩
  | v :: vs, k0, w, c, e, z, hb, hu, hl, ho => by
    simp only [List.length_cons] at hl
    have hlt : A.off + k0 < c.size := by omega
    have hstore : (store (A.add k0) v).run P w = .ok () (w.setCell ⟨A.block, A.off + k0, none⟩ v) := by
      rw [run_store P w _ v _ (ho v (List.mem_cons_self ..)), add_eq _ _ hA, cell_of hb hlt]
      have hfz : w.frozen? ⟨A.block, A.off + k0, none⟩ = false := by
        have := hu.2 _ hlt
        simp only [World.frozen?,hb]
        rw [Bool.eq_false_iff]
        intro hc
        simp only [Bool.and_eq_true,decide_eq_true_eq] at hc
        exact this hc
      simp [hfz]
    have hb1 := heap_setCell w A.block (A.off + k0) v hb
    obtain ⟨w', c', g1, g2, g3, g4, g5, g6, g7, g8, g9, g10⟩ := storeCells_raw (P := P) A hA vs (k0 + 1) hb1 (by simpa using hu) (by simp; omega) (fun v' hv => ho v' (List.mem_cons_of_mem _ hv))
    refine ⟨w', c', ?_, g2, by rw [g3]; simp, by rw [g4]; simp [World.setCell], fun b hne => (g5 b hne).trans (Go.RowKit.Below.heap_setCell _ _ _ _ hne), g6, g7, g8, fun k hk => ?_, fun m hm => ?_⟩
    · simp only [storeCells,Sem.run_bind,hstore,Result.andThen_ok]; exact g1
    · cases k with
      | zero =>
        rw [g10 _ (.inl (by omega))]
        simp only [Nat.add_zero,List.getD_cons_zero]
        rw [Array.getD_eq_getD_getElem?, Array.getElem?_setIfInBounds_self_of_lt hlt]; rfl
      | succ k =>
        have := g9 k (by simpa using hk)
        rw [show A.off + (k0 + 1) + k = A.off + k0 + (k + 1) from by omega] at this
        simpa using this
    · simp only [List.length_cons] at hm
      rw [g10 m (by omega), Array.getD_eq_getD_getElem?, Array.getElem?_setIfInBounds_ne (by omega), ← Array.getD_eq_getD_getElem?]
theorem growBy_le (n : Nat) : ∀ (r c : Nat), c ≤ 2 * n + 192 → Builtin.growBy n r c ≤ 2 * n + 192
  | 0, c, h => h
  | r + 1, c, h => by
    simp only [Builtin.growBy]
    split
    · exact h
    · exact growBy_le n r _ (by omega)
theorem nextcap_le {need old : Nat} (h : old < need) : Builtin.nextslicecap need old ≤ 3 * need := by
  unfold Builtin.nextslicecap
  split
  · omega
  · split
    · omega
    · have := growBy_le need 4 old (by omega)
      omega
/-- The cells that are appended. -/
theorem first_cells {P : Program} {w ow bs st fr} (h : Rel w ow bs st fr) {x : VV} {v : Value} {sz : Nat} {rows : List (List T)} (rx : RelV w ow bs st fr x v) (hx : rowsOf st x = some (sz, rows)) (hno : noOwn rows = true) :
    (∃ a cap, v = .slice a rows.length cap) ∧ ∃ nv : List Value, (∀ w' : World, w'.heap = w.heap → (Builtin.firstCells sz rows.length v).run P w' = .ok nv.toArray w') ∧ nv.length = rows.length * sz ∧ (∀ (i : Nat) (row : List T), rows[i]? = some row → row.length = sz) ∧
      ∀ (i : Nat) (row : List T) (j : Nat) (y : T), rows[i]? = some row → row[j]? = some y → RepR w ow y (nv.getD (i * sz + j) undef) := by
  obtain ⟨a, cap, rfl, hcap, hor⟩ := rows_rel h rx hx
  refine ⟨⟨a, cap, rfl⟩, ?_⟩
  rcases hor with h0 | ⟨b, c, e, z, rfl, hs, hb, hfit, hrows, hcells⟩
  · subst h0
    refine ⟨[], fun w' _ => ?_, by simp, by simp, by simp⟩
    cases a with
    | none => simp [Builtin.firstCells]
    | some a => simp [Builtin.firstCells,loadCells,loadCellsFrom]
  · refine ⟨(List.range (rows.length * sz)).map (fun k => c.getD (b.off + k) undef), fun w' hw' => ?_, by simp, hrows, fun i row j y hi hj => ?_⟩
    · have := run_loadCells (P := P) w' b (rows.length * sz) (fun k => c.getD (b.off + k) undef) (fun k hk => by
        rw [add_eq _ _ hs]; exact cell_of (by rw [hw']; exact hb) (by omega))
      simpa [Builtin.firstCells] using this
    · have hil := lt_of_getl hi
      have hjl := lt_of_getl hj
      have hrl := hrows i row hi
      have hmul : (i + 1) * sz ≤ rows.length * sz := Nat.mul_le_mul_right _ hil
      rw [Nat.add_mul] at hmul
      have hlt : i * sz + j < rows.length * sz := by omega
      rw [List.getD_eq_getElem?_getD, List.getElem?_map, List.getElem?_range hlt]
      simp only [Option.map_some,Option.getD_some]
      rw [show b.off + (i * sz + j) = b.off + i * sz + j from by omega]
      refine hcells i row j y hi hj ?_
      have h1 := List.all_eq_true.1 hno row (List.mem_of_getElem? hi)
      have h2 := List.all_eq_true.1 h1 y (List.mem_of_getElem? hj)
      cases y with
      | list o _ _ => cases o <;> simp_all [plainT, isOwn]
      | dead => rfl
      | _ => rfl
theorem first_string {P : Program} (w : World) (ow : Own) (s : ByteArray) :
    ∃ nv : List Value, (∀ w' : World, (Builtin.firstCells 1 s.size (.string s)).run P w' = .ok nv.toArray w') ∧ nv.length = (strRows s).length * 1 ∧ (∀ (i : Nat) (row : List T), (strRows s)[i]? = some row → row.length = 1) ∧
      ∀ (i : Nat) (row : List T) (j : Nat) (y : T), (strRows s)[i]? = some row → row[j]? = some y → RepR w ow y (nv.getD (i * 1 + j) undef) := by
  refine ⟨s.data.toList.map fun b => .int .u8 b.toNat, fun w' => ?_, by simp [strRows], fun i row hi => ?_, fun i row j y hi hj => ?_⟩
  · have : (s.extract 0 s.size) = s := by
      obtain ⟨⟨l⟩⟩ := s
      rw [ByteArray.extract_mk]
      simp [ByteArray.size]
    simp only [Builtin.firstCells,this,Sem.run_pure]
    congr 1
    apply Array.ext'
    simp
  · simp only [strRows,List.getElem?_map] at hi
    obtain ⟨b, _, rfl⟩ := Option.map_eq_some_iff.1 hi
    rfl
  · simp only [strRows,List.getElem?_map] at hi
    obtain ⟨b, hb, rfl⟩ := Option.map_eq_some_iff.1 hi
    cases j with
    | zero =>
      simp only [List.getElem?_cons_zero,Option.some.injEq] at hj
      subst hj
      simp only [Nat.mul_one,Nat.add_zero,List.getD_eq_getElem?_getD,List.getElem?_map,hb,Option.map_some,Option.getD_some]
      exact .int
    | succ j => simp at hj
theorem repr_oneCell {w ow y v} (h : RepR w ow y v) (hd : y ≠ .dead) : v.oneCell' = true := by
  cases h with
  | held h => cases h <;> rfl
  | dead => exact absurd rfl hd
  | _ => rfl
theorem noOwn_live {rows : List (List T)} (h : noOwn rows = true) {i : Nat} {row : List T} {j : Nat} {y : T} (hi : rows[i]? = some row) (hj : row[j]? = some y) : y ≠ .dead := by
  have h1 := List.all_eq_true.1 h row (List.mem_of_getElem? hi)
  have h2 := List.all_eq_true.1 h1 y (List.mem_of_getElem? hj)
  intro e
  subst e
  cases h2
/-- Rows, cell by cell: each value of the flat row is one of a cell. -/
theorem flat_cell {rows : List (List T)} {sz k : Nat} (hrows : ∀ (i : Nat) (row : List T), rows[i]? = some row → row.length = sz) (hk : k < rows.length * sz) : ∃ i row j y, rows[i]? = some row ∧ row[j]? = some y ∧ k = i * sz + j := by
  have hs : 0 < sz := by
    rcases Nat.eq_zero_or_pos sz with e | e
    · subst e; omega
    · exact e
  have hi : k / sz < rows.length := by rw [Nat.div_lt_iff_lt_mul hs]; exact hk
  have hrow := List.getElem?_eq_getElem hi
  have hrl := hrows _ _ hrow
  have hj : k % sz < (rows[k / sz]).length := by rw [hrl]; exact Nat.mod_lt _ hs
  exact ⟨k / sz, _, k % sz, _, hrow, List.getElem?_eq_getElem hj, by rw [Nat.mul_comm]; exact (Nat.div_add_mod k sz).symm⟩
theorem append_core {P : Program} {w ow bs st} {fr : Nat → Prop} (h : Rel w ow bs st fr) {r sz : Nat} {ys : List (List T)} {vs vx : Value} {sT xT ty e : TypeId} {xs : List (List T)} {nv : List Value} {z : List T}
    (hr : st r = some ⟨false, sz, ys, []⟩) (hv : (bs (r, [])).2 = vs) (ht : P.underlying sT = some (.slice e)) (hx : (∃ e', P.underlying xT = some (.slice e')) ∨ P.underlying xT = some .string) (hne : P.cellsOf e ≠ 0) (hsz : P.cellsOf e = sz) (hz : zeroT P e = some z)
    (hlen : (Builtin.lenOf vx).run P w = .ok xs.length w) (hfirst : ∀ w' : World, w'.heap = w.heap → (Builtin.firstCells sz xs.length vx).run P w' = .ok nv.toArray w') (hnl : nv.length = xs.length * sz) (hrows : ∀ (i : Nat) (row : List T), xs[i]? = some row → row.length = sz)
    (hcells : ∀ (i : Nat) (row : List T) (j : Nat) (y : T), xs[i]? = some row → row[j]? = some y → RepR w ow y (nv.getD (i * sz + j) undef) ∧ y ≠ .dead) (hmax : (ys.length + xs.length + 1) * (P.bytesOf e + 1) ≤ bigRow) :
    ∃ v w' ow' bs', (Builtin.append_ #[sT, xT] ty #[vs, vx]).run P w = .ok v w' ∧ Rel w' ow' bs' (st.put r (some ⟨false, sz, ys ++ xs, []⟩)) fr ∧ Steady w ow w' ow' ∧ (∀ ℓ, ℓ ≠ (r, []) → bs' ℓ = bs ℓ) ∧ bs' (r, []) = (sz, v) ∧
      SliceOf (ys.length + xs.length) v ∧ Sub sz v 0 (ys.length + xs.length) v := by
  obtain ⟨zv, hz1, hz2, hz3, hz4⟩ := zeroT_some hz w
  obtain ⟨i, hi⟩ := info_of_cells hne
  have hbytes : P.bytesOf e = i.bytes := by simp [Program.bytesOf,hi]
  have hone : ∀ v ∈ nv, v.oneCell' = true := by
    intro v hv
    obtain ⟨k, hk⟩ := List.getElem?_of_mem hv
    have hkl := lt_of_getl hk
    obtain ⟨i, row, j, y, h1, h2, h3⟩ := flat_cell hrows (k := k) (by omega)
    have := hcells i row j y h1 h2
    rw [← h3, getD_of hk] at this
    exact repr_oneCell this.1 this.2
  have hroot := h.root r _ hr
  have hrb := hroot.base
  rw [hv] at hroot hrb
  simp only at hroot hrb
  have hbig : ys.length + xs.length ≤ bigRow := by
    have : (ys.length + xs.length + 1) * 1 ≤ (ys.length + xs.length + 1) * (P.bytesOf e + 1) := Nat.mul_le_mul_left _ (by omega)
    omega
  have hbb : (ys.length + xs.length) * i.bytes ≤ bigRow := by
    rw [← hbytes]
    refine Nat.le_trans (Nat.mul_le_mul (by omega) (by omega)) hmax
  -- the slice that is grown
  obtain ⟨base, scap, rfl, hsc, hbase⟩ : ∃ base scap, vs = .slice base ys.length scap ∧ ys.length ≤ scap ∧ ((base = none ∧ ys = [] ∧ scap = 0) ∨ ∃ a c e0 z0, base = some a ∧ a.spot = none ∧ ow a.block = some (r, []) ∧ w.heap[a.block]? = some (.cells c e0 z0) ∧ Unfrozen z0 c.size ∧ a.off + scap * sz ≤ c.size) := by
    cases hroot with
    | ro h => cases h
    | nil => exact ⟨none, 0, rfl, Nat.le_refl _, .inl ⟨rfl, rfl, rfl⟩⟩
    | @list _ a _ _ len cap c e0 z0 base spot own blk free hlen hcap fits hrw cells =>
      subst hlen
      exact ⟨some a, cap, rfl, hcap, .inr ⟨a, c, e0, z0, rfl, spot, own, blk, free, fits⟩⟩
  have hpre : (Builtin.append_ #[sT, xT] ty #[.slice base ys.length scap, vx]).run P w =
      (if ys.length + xs.length ≤ scap then (do
          let new ← Builtin.firstCells sz xs.length vx
          if let some a := base then storeCells (a.add (ys.length * sz)) new.toList
          pure (.slice base (ys.length + xs.length) scap) : Sem Value)
        else (do
          let newCap ← choose (.appendCap (ys.length + xs.length) scap e)
          askRoom (newCap * (← typeInfo e).bytes)
          let old ← Builtin.firstCells sz ys.length (.slice base ys.length scap)
          let new ← Builtin.firstCells sz xs.length vx
          let rest := Builtin.zeroCells (← zeroValue e).cells (newCap - (ys.length + xs.length))
          pure (.slice (some (← newRow e (old ++ new ++ rest))) (ys.length + xs.length) newCap) : Sem Value)).run P w := by
    have h63 : ¬ ((ys.length + xs.length : Nat) : Int) > IntKind.i64.max := by
      rw [show IntKind.i64.max = 9223372036854775807 from rfl]; unfold bigRow at hbig; omega
    rcases hx with ⟨e', hx⟩ | hx
    all_goals
      by_cases hc : ys.length + xs.length ≤ scap
      · simp [Builtin.append_,run_underlying ht,run_underlying hx,sizeOf_run hne,hsz,hlen,hc]
        cases base <;> rfl
      · have hcapb : ¬ Builtin.nextslicecap (ys.length + xs.length) scap * i.bytes > 2 ^ 48 := by
          have := nextcap_le (need := ys.length + xs.length) (old := scap) (by omega)
          have h3 : Builtin.nextslicecap (ys.length + xs.length) scap * i.bytes ≤ 3 * (ys.length + xs.length) * i.bytes := Nat.mul_le_mul_right _ this
          rw [Nat.mul_assoc] at h3
          unfold bigRow at hbb
          omega
        have h63' : ¬ ((9223372036854775807 : Int) < ys.length + xs.length) := by unfold bigRow at hbig; omega
        have hcapb' : ¬ (281474976710656 < Builtin.nextslicecap (ys.length + xs.length) scap * i.bytes) := hcapb
        simp [Builtin.append_,run_underlying ht,run_underlying hx,sizeOf_run hne,hsz,hlen,hc,h63',run_typeInfo w hi,hcapb']
  rw [hpre]
  by_cases hc : ys.length + xs.length ≤ scap
  · rw [if_pos hc]
    rcases hbase with ⟨rfl, hy0, rfl⟩ | ⟨a, c, e0, z0, rfl, hs, ho, hb, hu, hfit⟩
    · have hx0 : xs = [] := List.eq_nil_of_length_eq_zero (by omega)
      subst hy0 hx0
      refine ⟨.slice none 0 0, w, ow, bs, ?_, ?_, Steady.refl _ _, fun _ _ => rfl, hrb, ⟨_, _, rfl, Nat.le_refl _, (fun _ => ⟨rfl, rfl⟩), (fun b hb => by cases hb)⟩, .inr ⟨0, 0, rfl, rfl, rfl⟩⟩
      · have hf0 := hfirst w rfl
        simp only [List.length_nil] at hf0
        simp [hf0]
      · refine h.sub (fun x R hR => ?_)
        by_cases e : x = r
        · subst e
          simp only [St.put_eq,Option.some.injEq] at hR
          rw [hr, ← hR]; rfl
        · rw [St.put_ne _ _ e] at hR; exact hR
    · have hmul : (ys.length + xs.length) * sz ≤ scap * sz := Nat.mul_le_mul_right _ hc
      rw [Nat.add_mul] at hmul
      obtain ⟨w', c', g1, g2, g3, g4, g5, g6, g7, g8, g9, g10⟩ := storeCells_raw (P := P) ⟨a.block, a.off + ys.length * sz, none⟩ rfl nv 0 hb hu (by simp only; omega) hone
      simp only [Nat.add_zero] at g9 g10
      obtain ⟨ow', k1, k2⟩ := h.regrow (w' := w') hr hv (nb := a.block) (o := a.off) (cap := scap) (c := c') (xs := xs) g2 (by omega) (fun b _ hne => g5 b hne) (fun _ => ⟨ho, a, _, _, rfl, rfl⟩) (by rw [g3]; exact hu) hc (by rw [g3]; exact hfit)
        (fun a1 l1 cap1 c1 e1 z1 hva hb1 k hk => by
          simp only [Value.slice.injEq,Option.some.injEq] at hva
          obtain ⟨rfl, _, _⟩ := hva
          rw [hb] at hb1
          simp only [Option.some.injEq,Obj.cells.injEq] at hb1
          obtain ⟨rfl, _, _⟩ := hb1
          exact g10 _ (.inl (by omega)))
        hrows (fun i row j y h1 h2 => by
          have hrl := hrows i row h1
          have hjl := lt_of_getl h2
          have hil := lt_of_getl h1
          have hm2 : (i + 1) * sz ≤ xs.length * sz := Nat.mul_le_mul_right _ hil
          rw [Nat.add_mul] at hm2
          have := g9 (i * sz + j) (by omega)
          rw [show a.off + (ys.length + i) * sz + j = a.off + ys.length * sz + (i * sz + j) from by rw [Nat.add_mul]; omega, this]
          exact (hcells i row j y h1 h2).1)
      have haddr : a.add (ys.length * sz) = ⟨a.block, a.off + ys.length * sz, none⟩ := add_eq _ _ hs
      refine ⟨.slice (some a) (ys.length + xs.length) scap, w', ow', _, ?_, k1, ⟨k2, by omega, g6, g7, g8⟩, fun ℓ hℓ => if_neg hℓ, ?_, ⟨_, _, rfl, hc, (fun e => by cases e), (fun b e => by cases e; exact hs)⟩, ?_⟩
      · simp [hfirst w rfl,haddr,g1]
      · rw [if_pos rfl]
        congr 2
        cases a; simp only at hs; subst hs; rfl
      · refine .inl ⟨a, _, scap, a.off, scap, rfl, ?_, .inr (by omega), Nat.le_refl _, hc, by omega, .inr (by omega)⟩
        cases a; simp only at hs; subst hs; rfl
  · rw [if_neg hc]
    -- a new row
    generalize hq : (Question.appendCap (ys.length + xs.length) scap e).cut (w.tape w.drawn (.appendCap (ys.length + xs.length) scap e)) = ncap
    have hncap : ys.length + xs.length ≤ ncap := by rw [← hq]; simp only [Question.cut]; omega
    obtain ⟨ov, hov1, hov2, hov3⟩ : ∃ ov : List Value, (∀ w' : World, w'.heap = w.heap → (Builtin.firstCells sz ys.length (.slice base ys.length scap)).run P w' = .ok ov.toArray w') ∧ ov.length = ys.length * sz ∧
        ∀ (a : Addr) (l cap0 : Nat) (c0 : Array Value) (e0 : TypeId) (z0 : Nat × Nat), (Value.slice base ys.length scap) = .slice (some a) l cap0 → w.heap[a.block]? = some (.cells c0 e0 z0) → ∀ k, k < ys.length * sz → ov.getD k undef = c0.getD (a.off + k) undef := by
      rcases hbase with ⟨rfl, hy0, rfl⟩ | ⟨a, c, e0, z0, rfl, hs, ho, hb, hu, hfit⟩
      · subst hy0
        exact ⟨[], fun w' _ => by simp [Builtin.firstCells], by simp, fun a l cap0 c0 e0 z0 hva => by cases hva⟩
      · have hmul : ys.length * sz ≤ scap * sz := Nat.mul_le_mul_right _ hsc
        refine ⟨(List.range (ys.length * sz)).map (fun k => c.getD (a.off + k) undef), fun w' hw' => ?_, by simp, fun a1 l1 cap1 c1 e1 z1 hva hb1 k hk => ?_⟩
        · have := run_loadCells (P := P) w' a (ys.length * sz) (fun k => c.getD (a.off + k) undef) (fun k hk => by
            rw [add_eq _ _ hs]; exact cell_of (by rw [hw']; exact hb) (by omega))
          simpa [Builtin.firstCells] using this
        · simp only [Value.slice.injEq,Option.some.injEq] at hva
          obtain ⟨rfl, _, _⟩ := hva
          rw [hb] at hb1
          simp only [Option.some.injEq,Obj.cells.injEq] at hb1
          obtain ⟨rfl, _, _⟩ := hb1
          rw [List.getD_eq_getElem?_getD, List.getElem?_map, List.getElem?_range hk]; rfl
    generalize hrest : Builtin.zeroCells zv.cells (ncap - (ys.length + xs.length)) = rest
    have hrl : rest.size = (ncap - (ys.length + xs.length)) * sz := by rw [← hrest]; simp [Builtin.zeroCells]; rw [← hz2, hz3, hsz]
    generalize hcc : ov.toArray ++ nv.toArray ++ rest = cc
    have hccl : cc.size = ncap * sz := by
      rw [← hcc]
      simp only [Array.size_append,List.size_toArray,hov2,hnl,hrl]
      rw [← Nat.add_mul, ← Nat.add_mul]
      congr 1
      omega
    have hccv : ∀ k, k < ov.length + nv.length → cc.getD k undef = (ov ++ nv).getD k undef := by
      intro k hk
      rw [← hcc, Array.getD_eq_getD_getElem?, Array.getElem?_append_left (by simp; omega), List.getD_eq_getElem?_getD, ← Array.getElem?_toList]
      simp
    obtain ⟨ow', k1, k2⟩ := h.regrow (w' := w.drew.alloc (.cells cc e)) hr hv (nb := w.heap.size) (o := 0) (cap := ncap) (c := cc) (xs := xs) (e := e) (z := (0, 0)) (by show (w.heap.push _)[w.heap.size]? = _; simp) (by show w.heap.size ≤ (w.heap.push _).size; simp)
      (fun b hlt _ => by show (w.heap.push _)[b]? = _; rw [Array.getElem?_push, if_neg (by omega)]) (fun hlt => by omega) ⟨by simp, fun k _ hk => by omega⟩ hncap (by omega)
      (fun a1 l1 cap1 c1 e1 z1 hva hb1 k hk => by
        rw [Nat.zero_add, hccv k (by omega), List.getD_eq_getElem?_getD, List.getElem?_append_left (by omega), ← List.getD_eq_getElem?_getD]
        exact hov3 a1 l1 cap1 c1 e1 z1 hva hb1 k hk)
      hrows (fun i row j y h1 h2 => by
        have hrl := hrows i row h1
        have hjl := lt_of_getl h2
        have hil := lt_of_getl h1
        have hm2 : (i + 1) * sz ≤ xs.length * sz := Nat.mul_le_mul_right _ hil
        rw [Nat.add_mul] at hm2
        rw [Nat.zero_add, show (ys.length + i) * sz + j = ys.length * sz + (i * sz + j) from by rw [Nat.add_mul]; omega, hccv _ (by omega), List.getD_eq_getElem?_getD, List.getElem?_append_right (by omega), hov2]
        rw [show ys.length * sz + (i * sz + j) - ys.length * sz = i * sz + j from by omega, ← List.getD_eq_getElem?_getD]
        exact (hcells i row j y h1 h2).1)
    refine ⟨.slice (some ⟨w.heap.size, 0, none⟩) (ys.length + xs.length) ncap, _, ow', _, ?_, k1, ⟨k2, by show w.heap.size ≤ (w.heap.push _).size; simp, rfl, rfl, rfl⟩, fun ℓ hℓ => if_neg hℓ, if_pos rfl, ⟨_, _, rfl, hncap, (fun e => by cases e), (fun b e => by cases e; rfl)⟩, .inl ⟨_, _, ncap, 0, ncap, rfl, rfl, .inr (by simp), Nat.le_refl _, hncap, by omega, .inr (by simp)⟩⟩
    have hzw : (zeroValue e).run P w.drew = .ok zv w.drew := by
      obtain ⟨zv', q1, _⟩ := zeroT_some hz w.drew
      have : zv' = zv := by
        simp only [zeroValue,Sem.run_bind,run_typeInfo _ hi,Result.andThen_ok] at q1 hz1
        cases hzz : i.zero with
        | none => rw [hzz] at hz1; simp [unsupported] at hz1
        | some v => rw [hzz] at q1 hz1; simp only [Sem.run_pure,Result.ok.injEq,and_true] at q1 hz1; rw [← q1, ← hz1]
      rw [this] at q1; exact q1
    simp only [Sem.run_bind,run_choose,Question.forced,Bool.false_eq_true,if_false,Result.andThen_ok,hq]
    rw [show ({ w with drawn := w.drawn + 1 } : World) = w.drew from rfl]
    simp only [run_typeInfo _ hi,run_askRoom,Result.andThen_ok,hov1 w.drew rfl,hfirst w.drew rfl,hzw,hrest,hcc]
    simp [newRow]
end Go.VM
/- Bytes and strings. -/
namespace Go.VM
theorem strBytes_sound {P : Program} {w ow bs st} {fr : Nat → Prop} {fid : Nat} (h : Rel w ow bs st fr) (hroom : Room fr fid) {e : TypeId} {s : ByteArray} :
    Does w ow bs st fr (fun y => fr y ∧ ¬ Mine fid y) ((do pure (Next.value (← Conv.stringToBytes e s)) : Sem Next).run P w) (.al fid [] 0 1 0 s.size)
      (st.ups [(fid, some ⟨false, 1, strRows s, []⟩)]) := by
  have hf0 : fr fid := by have := hroom 0 (by omega); simpa using this
  generalize hq : (Question.appendCap s.size 0 e).cut (w.tape w.drawn (.appendCap s.size 0 e)) = ncap
  have hncap : s.size ≤ ncap := by rw [← hq]; simp only [Question.cut]; omega
  generalize hcc : (s.data.map fun b => Value.int .u8 b.toNat) ++ Array.replicate (ncap - s.size) (Value.int .u8 0) = cc
  have hsz : s.size = s.data.size := rfl
  have hccl : cc.size = ncap := by rw [← hcc]; simp; omega
  have hval : ∀ (k : Nat) (b : UInt8), s.data.toList[k]? = some b → cc.getD k undef = .int .u8 b.toNat := by
    intro k b hb
    have hk : k < s.data.size := by have := lt_of_getl hb; simpa using this
    rw [← hcc, Array.getD_eq_getD_getElem?, Array.getElem?_append_left (by simpa using hk), Array.getElem?_map, ← Array.getElem?_toList, hb]; rfl
  have hw1 : Rel w.drew ow bs st fr := h.heap rfl
  obtain ⟨k1, k2, k3⟩ := hw1.alloc (r := fid) hf0 (sz := 1) (rows := strRows s) (cap := ncap) (c := cc) (e := e) (z := (ncap, ncap + 1)) false (by omega) ⟨by simp, fun k hk hc => by omega⟩ (by simp [strRows]; omega)
    (fun i row hi => by
      simp only [strRows,List.getElem?_map] at hi
      obtain ⟨b, _, rfl⟩ := Option.map_eq_some_iff.1 hi
      rfl)
    (fun i row j x hi hj => by
      simp only [strRows,List.getElem?_map] at hi
      obtain ⟨b, hb, rfl⟩ := Option.map_eq_some_iff.1 hi
      cases j with
      | zero =>
        simp only [List.getElem?_cons_zero,Option.some.injEq] at hj
        subst hj
        rw [Nat.mul_one, Nat.add_zero, hval i b hb]
        exact .inl .int
      | succ j => simp at hj)
    (fun hb => by cases hb)
  have hsub : ∀ x, (fr x ∧ ¬ Mine fid x) → fr x ∧ x ≠ fid := fun x hx => ⟨hx.1, fun e => hx.2 (by rw [e]; exact ⟨Nat.le_refl _, by omega⟩)⟩
  have hlen : (strRows s).length = s.size := by simp only [strRows,List.length_map,Array.length_toList]; rfl
  have hbase : newBase bs fid 1 (strRows s) ncap w.drew.heap.size (fid, []) = (1, .slice (some ⟨w.heap.size, 0, none⟩) s.size ncap) := by simp only [newBase,if_true,hlen]; rfl
  refine ⟨.slice (some ⟨w.heap.size, 0, none⟩) s.size ncap, w.drew.alloc (.cells cc e (ncap, ncap + 1)), _, _, .inl ?_, k1.shrink hsub, ?_, ⟨fun b hb hlt => k2.kept b hb hlt, k2.size, k2.os, k2.tape, k2.output⟩, ?_⟩
  · have hshape : (w.drew.alloc (.cells cc e)).shape? w.heap.size = some (e, cc.size) := by
      show (match (w.heap.push (Obj.cells cc e))[w.heap.size]? with | some (.cells c elem _) => some (elem, c.size) | _ => none) = _
      simp
    have hfreeze : (w.drew.alloc (.cells cc e)).freeze ⟨w.heap.size, ncap, none⟩ 1 = w.drew.alloc (.cells cc e (ncap, ncap + 1)) := by
      unfold World.freeze World.alloc World.drew
      simp only [Nat.one_ne_zero,if_false]
      congr 1
      apply Array.ext_getElem?
      intro k
      rw [Array.getElem?_modify]
      split
      · rename_i hk
        subst hk
        simp
      · rename_i hk
        simp only [Array.getElem?_push]
        split
        · rename_i e'; exact absurd e'.symm hk
        · rfl
    simp only [Conv.stringToBytes,Sem.run_bind,run_choose,Question.forced,Bool.false_eq_true,if_false,Result.andThen_ok,hq]
    rw [show ({ w with drawn := w.drawn + 1 } : World) = w.drew from rfl]
    simp only [newRow,Sem.run_bind,run_newObj_alloc,Result.andThen_ok,Sem.run_pure,hcc,markStringish,run_shape]
    rw [show w.drew.heap.size = w.heap.size from rfl, hshape]
    simp only [hccl,run_freeze,Result.andThen_ok]
    rw [hfreeze]
  · exact .al (fun e => e.2 ⟨Nat.le_refl _, by omega⟩) (fun _ => ⟨by rw [hbase], by rw [hbase]; exact .inl ⟨_, _, _, 0, ncap, rfl, rfl, .inr (by simp), by simp, hncap, by omega, .inr (by simp)⟩⟩)
      ⟨_, _, rfl, hncap, (fun e => by cases e), (fun b e => by cases e; rfl)⟩ (fun R hR => Nat.zero_le _)
  · exact (k3.trans (Quiet.shrink hsub))
theorem bytes_fold (l : List Int) : ∀ (r : ByteArray), l.foldl (fun r n => r.push (UInt8.ofNat n.toNat)) r = ⟨r.data ++ (l.map fun n => UInt8.ofNat n.toNat).toArray⟩ := by
  induction l with
  | nil => intro r; simp
  | cons n l ih =>
    intro r
    rw [List.foldl_cons, ih]
    obtain ⟨d⟩ := r
    simp only [ByteArray.push]
    congr 1
    apply Array.ext'
    simp
theorem bytesV_ints : ∀ {rows : List (List T)} {l : List UInt8}, rows.mapM byteRow = some l → ∃ ns : List Int, rows = ns.map (fun n => [T.int .u8 n]) ∧ l = ns.map fun n => UInt8.ofNat n.toNat
  | [], l, h => by
    simp only [List.mapM_nil] at h
    cases h
    exact ⟨[], rfl, rfl⟩
  | row :: rows, l, h => by
    simp only [List.mapM_cons] at h
    cases hb : byteRow row with
    | none => rw [hb] at h; cases h
    | some b =>
      cases hr : rows.mapM byteRow with
      | none => rw [hb, hr] at h; cases h
      | some l' =>
        rw [hb, hr] at h
        have h : some (b :: l') = some l := h
        simp only [Option.some.injEq] at h
        subst h
        obtain ⟨ns, h1, h2⟩ := bytesV_ints hr
        unfold byteRow at hb
        split at hb
        · rename_i n
          simp only [Option.some.injEq] at hb
          exact ⟨n :: ns, by rw [h1]; rfl, by rw [← hb, h2]; rfl⟩
        · cases hb
theorem bytesStr_run {P : Program} {w ow bs st fr} (h : Rel w ow bs st fr) {x : VV} {v : Value} {rows : List (List T)} {b : ByteArray} (rx : RelV w ow bs st fr x v) (hx : rowsOf st x = some (1, rows)) (hb : bytesV rows = some b) :
    (Conv.bytesToString v).run P w = .ok (.string b) w := by
  obtain ⟨a, cap, rfl, hcap, hor⟩ := rows_rel h rx hx
  unfold bytesV at hb
  obtain ⟨l, hl, rfl⟩ := Option.map_eq_some_iff.1 hb
  obtain ⟨ns, hns, rfl⟩ := bytesV_ints hl
  cases a with
  | none =>
    rcases hor with h0 | ⟨b, c, e, z, hb, _⟩
    · rw [h0] at hns
      have : ns = [] := List.map_eq_nil_iff.1 hns.symm
      subst this
      simp [Conv.bytesToString]; rfl
    · cases hb
  | some a =>
    have hload : (loadCells a rows.length).run P w = .ok (ns.map (Value.int .u8)).toArray w := by
      rcases hor with h0 | ⟨b, c, e, z, hb, hs, hblk, hfit, hrows, hcells⟩
      · rw [h0] at hns ⊢
        have : ns = [] := List.map_eq_nil_iff.1 hns.symm
        subst this
        simp [loadCells,loadCellsFrom]
      · cases hb
        have hlen : rows.length = ns.length := by rw [hns]; simp
        have := run_loadCells (P := P) w a rows.length (fun k => Value.int .u8 (ns.getD k 0)) (fun k hk => by
          rw [add_eq _ _ hs, cell_of hblk (by omega)]
          have hkn : k < ns.length := by omega
          have := hcells k [T.int .u8 ns[k]] 0 (.int .u8 ns[k]) (by rw [hns, List.getElem?_map, List.getElem?_eq_getElem hkn]; rfl) (by simp) rfl
          rw [Nat.mul_one, Nat.add_zero] at this
          generalize c.getD (a.off + k) undef = cv at this ⊢
          cases this
          rw [List.getD_eq_getElem?_getD, List.getElem?_eq_getElem hkn]; rfl)
        rw [this]
        congr 2
        apply List.ext_getElem?
        intro k
        by_cases hk : k < ns.length
        · simp [List.getElem?_map,List.getElem?_range (show k < rows.length by omega),List.getElem?_eq_getElem hk]
        · rw [List.getElem?_eq_none (by simp; omega), List.getElem?_eq_none (by simp; omega)]
    rw [run_bytesToString w a _ _ ns hload, bytes_fold]
    simp
end Go.VM
/- Each operation does to memory what it does to the frame's values. -/
namespace Go.VM
theorem minus_sub {fr : Nat → Prop} {fid : Nat} : ∀ y, (fr y ∧ ¬ Mine fid y) → fr y := fun _ h => h.1
/-! ### copy -/
theorem first_cellsN {P : Program} {w ow bs st fr} (h : Rel w ow bs st fr) {x : VV} {v : Value} {sz : Nat} {rows : List (List T)} (rx : RelV w ow bs st fr x v) (hx : rowsOf st x = some (sz, rows)) (hno : noOwn rows = true) (n : Nat) (hn : n ≤ rows.length) :
    (∃ a cap, v = .slice a rows.length cap) ∧ ∃ nv : List Value, (Builtin.firstCells sz n v).run P w = .ok nv.toArray w ∧ nv.length = n * sz ∧ (∀ (i : Nat) (row : List T), (rows.take n)[i]? = some row → row.length = sz) ∧
      ∀ (i : Nat) (row : List T) (j : Nat) (y : T), (rows.take n)[i]? = some row → row[j]? = some y → RepR w ow y (nv.getD (i * sz + j) undef) ∧ isOwn y = false ∧ y ≠ .dead := by
  obtain ⟨a, cap, rfl, hcap, hor⟩ := rows_rel h rx hx
  refine ⟨⟨a, cap, rfl⟩, ?_⟩
  rcases hor with h0 | ⟨b, c, e, z, rfl, hs, hb, hfit, hrows, hcells⟩
  · subst h0
    obtain rfl : n = 0 := by simpa using hn
    refine ⟨[], ?_, by simp, by simp, by simp⟩
    cases a with
    | none => simp [Builtin.firstCells]
    | some a => simp [Builtin.firstCells,loadCells,loadCellsFrom]
  · have hmn : n * sz ≤ rows.length * sz := Nat.mul_le_mul_right _ hn
    have hget : ∀ (i : Nat) (row : List T), (rows.take n)[i]? = some row → rows[i]? = some row ∧ i < n := by
      intro i row hi
      rw [List.getElem?_take] at hi
      split at hi
      · exact ⟨hi, by assumption⟩
      · cases hi
    refine ⟨(List.range (n * sz)).map (fun k => c.getD (b.off + k) undef), ?_, by simp, fun i row hi => hrows i row (hget i row hi).1, fun i row j y hi hj => ?_⟩
    · have := run_loadCells (P := P) w b (n * sz) (fun k => c.getD (b.off + k) undef) (fun k hk => by
        rw [add_eq _ _ hs]; exact cell_of hb (by omega))
      simpa [Builtin.firstCells] using this
    · obtain ⟨hi', hin⟩ := hget i row hi
      have hjl := lt_of_getl hj
      have hrl := hrows i row hi'
      have hmul : (i + 1) * sz ≤ n * sz := Nat.mul_le_mul_right _ hin
      rw [Nat.add_mul] at hmul
      have hlt : i * sz + j < n * sz := by omega
      have h1 := List.all_eq_true.1 hno row (List.mem_of_getElem? hi')
      have h2 := List.all_eq_true.1 h1 y (List.mem_of_getElem? hj)
      have hy : isOwn y = false ∧ y ≠ .dead := by
        cases y with
        | list o _ _ => cases o <;> simp_all [plainT, isOwn]
        | dead => simp [plainT] at h2
        | _ => exact ⟨rfl, by simp⟩
      refine ⟨?_, hy⟩
      rw [List.getD_eq_getElem?_getD, List.getElem?_map, List.getElem?_range hlt]
      simp only [Option.map_some,Option.getD_some]
      rw [show b.off + (i * sz + j) = b.off + i * sz + j from by omega]
      exact hcells i row j y hi' hj hy.1
theorem storeCells_append {P : Program} (A : Addr) (hA : A.spot = none) : ∀ (xs ys : List Value) (k : Nat) (w : World),
    (storeCells A (xs ++ ys) k).run P w = ((storeCells A xs k).run P w).andThen fun _ w' => (storeCells (A.add (k + xs.length)) ys 0).run P w'
  | [], ys, k, w => by
    simp only [List.nil_append,List.length_nil,Nat.add_zero]
    show _ = (storeCells (A.add k) ys 0).run P w
    have : ∀ (ys : List Value) (k i : Nat) (w : World), (storeCells A ys (k + i)).run P w = (storeCells (A.add k) ys i).run P w := by
      intro ys
      induction ys with
      | nil => intro k i w; rfl
      | cons y ys ih =>
        intro k i w
        have e : (A.add k).add i = A.add (k + i) := by
          rw [add_eq _ _ hA, add_eq _ _ hA, add_eq _ _ rfl]
          simp only [Nat.add_assoc]
        simp only [storeCells,Sem.run_bind,e]
        congr 1
        funext u w'
        have := ih k (i + 1) w'
        rwa [← Nat.add_assoc] at this
    exact this ys k 0 w
  | x :: xs, ys, k, w => by
    have ih := storeCells_append (P := P) A hA xs ys (k + 1)
    simp only [List.cons_append,storeCells,Sem.run_bind,List.length_cons]
    cases hs : (store (A.add k) x).run P w with
    | ok u w' =>
      simp only [Result.andThen_ok]
      rw [ih w', show k + 1 + xs.length = k + (xs.length + 1) from by omega]
    | _ => rfl
theorem rel_rows {w ow bs st fr} (h : Rel w ow bs st fr) {r R p sz rows} (hr : st r = some R) (hn : nav R.sz R.rows p = some (sz, rows)) {i : Nat} {row : List T} (hi : rows[i]? = some row) : row.length = sz := by
  have := (h.root r R hr).nav hn
  generalize (bs (r, [] ++ p)).2 = v at this
  cases this with
  | ro h => cases h
  | nil => simp at hi
  | list _ _ _ _ _ _ _ _ rl _ => exact rl i row hi
theorem modAt_same (i : Nat) : ∀ {p : Path} {sz : Nat} {rows : List (List T)} {sz' : Nat} {rows' : List (List T)}, nav sz rows p = some (sz', rows') → modAt (putRows i []) rows p = rows := by
  intro p
  induction p with
  | nil => intro sz rows sz' rows' h; rfl
  | cons ij p ih =>
    obtain ⟨a, b⟩ := ij
    intro sz rows sz' rows' h
    simp only [nav] at h
    split at h
    · rename_i sz1 es1 hx
      obtain ⟨row, hr, hj⟩ := cell_some hx (by simp)
      simp only [modAt]
      rw [hx]
      simp only
      rw [ih h, getD_of hr, set_same hj, set_same hr]
    · cases h
theorem copy_core {P : Program} {p : Path} {r t0 : Nat} : ∀ (xs : List (List T)) (nv : List Value) (i : Nat) (A : Addr) {w : World} {ow bs st} {fr : Nat → Prop} {R : Root} {sz : Nat} {rows : List (List T)} {a : Addr} {len cap : Nat},
    Rel w ow bs st fr → st r = some R → nav R.sz R.rows p = some (sz, rows) → (bs (r, p)).2 = .slice (some a) len cap → A.spot = none → A.block = a.block → A.off = a.off + i * sz → i + xs.length ≤ rows.length → nv.length = xs.length * sz → (∀ (k : Nat) (row : List T), xs[k]? = some row → row.length = sz) →
    sz ≠ 0 → (∀ k, k < sz → t0 + k ≠ r ∧ fr (t0 + k)) → (∀ (k : Nat) (row : List T) (j : Nat) (y : T), xs[k]? = some row → row[j]? = some y → RepR w ow y (nv.getD (k * sz + j) undef) ∧ isOwn y = false ∧ y ≠ .dead) →
    ∃ w' ow' bs' st', (storeCells A nv 0).run P w = .ok () w' ∧ Rel w' ow' bs' st' fr ∧ Steady w ow w' ow' ∧ Quiet bs st fr bs' st' fr ∧ st' r = some { R with rows := modAt (putRows i xs) R.rows p } ∧ ∀ x, x ≠ r → ∀ R', st x = some R' ↔ st' x = some R'
  | [], nv, i, A, w, ow, bs, st, fr, R, sz, rows, a, len, cap, h, hr, hn, hb, hA, hAb, hAo, hi, hl, hrl, hsz, ht, hc => by
    obtain rfl : nv = [] := by simpa using hl
    refine ⟨w, ow, bs, st, rfl, h, Steady.refl _ _, Quiet.refl _ _ _, ?_, fun _ _ _ => Iff.rfl⟩
    rw [hr]
    have : ∀ {p : Path} {sz rows sz' rows'}, nav sz rows p = some (sz', rows') → modAt (putRows i []) rows p = rows := by
      intro p
      induction p with
      | nil => intro sz rows sz' rows' h; rfl
      | cons ij p ih =>
        obtain ⟨a, b⟩ := ij
        intro sz rows sz' rows' h
        simp only [nav] at h
        split at h
        · rename_i sz1 es1 hx
          obtain ⟨row, hr, hj⟩ := cell_some hx (by simp)
          simp only [modAt]
          rw [hx]
          simp only
          rw [ih h, getD_of hr, set_same hj, set_same hr]
        · cases h
    rw [this hn]
  | x :: xs, nv, i, A, w, ow, bs, st, fr, R, sz, rows, a, len, cap, h, hr, hn, hb, hA, hAb, hAo, hi, hl, hrl, hsz, ht, hc => by
    simp only [List.length_cons] at hi hl
    have hx : x.length = sz := hrl 0 x rfl
    obtain ⟨row, hrow⟩ : ∃ row, rows[i]? = some row := ⟨_, List.getElem?_eq_getElem (by omega)⟩
    have hrowl : row.length = sz := rel_rows h hr hn hrow
    have e1 : nv = nv.take sz ++ nv.drop sz := (List.take_append_drop _ _).symm
    have hmul : (xs.length + 1) * sz = xs.length * sz + sz := by rw [Nat.add_mul, Nat.one_mul]
    have hlt : (nv.take sz).length = sz := by rw [List.length_take]; omega
    have hld : (nv.drop sz).length = xs.length * sz := by rw [List.length_drop]; omega
    obtain ⟨w1, ow1, bs1, st1, q1, q2, q3, q4, q5, q6, q7⟩ := store_sound (P := P) A hA x (nv.take sz) 0 t0 h hr hn hrow (j0 := 0) (by omega) hb hAb (by omega) (by omega) (fun k hk => (ht k (by omega)).1)
      (fun k y v hy hv => by
        obtain ⟨c1, c2, c3⟩ := hc 0 x k y rfl hy
        have hk : k < sz := by have := lt_of_getl hy; omega
        have : nv.getD (0 * sz + k) undef = v := by
          rw [Nat.zero_mul, Nat.zero_add]
          refine getD_of ?_
          rw [List.getElem?_take] at hv
          rwa [if_pos hk] at hv
        rw [this] at c1
        exact .inl ⟨c2, c3, c1⟩)
    have hlog : filled p i (0 + 0) x = [] := by
      have : ∀ (ys : List T) (j : Nat), (∀ y ∈ ys, isOwn y = false) → filled p i j ys = [] := by
        intro ys
        induction ys with
        | nil => intro j _; rfl
        | cons y ys ih => intro j hy; simp only [filled,hy y (by simp),Bool.false_eq_true,if_false]; exact ih _ (fun z hz => hy z (by simp [hz]))
      refine this x _ (fun y hy => ?_)
      obtain ⟨k, hk⟩ := List.getElem?_of_mem hy
      exact (hc 0 x k y rfl hk).2.1
    rw [hlog, List.append_nil] at q5
    simp only [Nat.add_zero] at q5
    have hn1 : nav R.sz (modAt (setCells i 0 x) R.rows p) p = some (sz, setCells i 0 x rows) := nav_modAt _ hn
    have hlen1 : ∀ (ys : List T) (j : Nat) (rs : List (List T)), (setCells i j ys rs).length = rs.length := by
      intro ys
      induction ys with
      | nil => intro j rs; rfl
      | cons y ys ih => intro j rs; rw [setCells, ih]; simp [setIn]
    have hbb : (bs1 (r, p)).2 = .slice (some a) len cap := by
      have hnf : ¬ fr r := h.notfree hr
      by_cases hp : p = []
      · subst hp; rw [q4.base r hnf]; exact hb
      · have hs1 : Still st1 r p R.log.length := .inr ⟨_, q5, by simp [fresh]⟩
        rw [(q4.still r p R.log.length hnf hp (fun R' h' => by rw [hr] at h'; cases h'; exact Nat.le_refl _) hs1).2]; exact hb
    obtain ⟨w2, ow2, bs2, st2, s1, s2, s3, s4, s5, s6⟩ := copy_core (P := P) (t0 := t0) xs (nv.drop sz) (i + 1) (A.add sz) q2 q5 hn1 hbb (by rw [add_eq _ _ hA]) (by rw [add_eq _ _ hA]; exact hAb) (by rw [add_eq _ _ hA]; simp only [hAo,Nat.add_mul,Nat.one_mul]; omega)
      (by rw [hlen1]; omega) hld (fun k row hk => hrl (k + 1) row (by simpa using hk)) hsz ht
      (fun k row j y hk hj => by
        obtain ⟨c1, c2, c3⟩ := hc (k + 1) row j y (by simpa using hk) hj
        refine ⟨?_, c2, c3⟩
        have e : (nv.drop sz).getD (k * sz + j) undef = nv.getD ((k + 1) * sz + j) undef := by
          rw [List.getD_eq_getElem?_getD, List.getD_eq_getElem?_getD, List.getElem?_drop, Nat.add_mul, Nat.one_mul, show sz + (k * sz + j) = k * sz + sz + j from by omega]
        rw [e]
        exact c1.mono q3.kept)
    refine ⟨w2, ow2, bs2, st2, ?_, s2, q3.trans s3, q4.trans s4, ?_, fun y hy R' => ?_⟩
    · rw [e1, storeCells_append A hA, q1, Result.andThen_ok, hlt, Nat.zero_add]; exact s1
    · rw [s5]
      simp only [Option.some.injEq,Root.mk.injEq,true_and,and_true]
      rw [modAt_modAt _ _ hn]; rfl
    · rw [← s6 y hy R']
      constructor
      · intro hst
        by_cases hin : t0 ≤ y ∧ y < t0 + x.length
        · have : fr y := by have := (ht (y - t0) (by omega)).2; rwa [show t0 + (y - t0) = y from by omega] at this
          rw [h.free y this] at hst; cases hst
        · rw [q6 y hy hin]; exact hst
      · intro hst; exact q7 y R' hy hst
theorem copy_op_sound {P : Program} {w ow bs st} {fr : Nat → Prop} {fid : Nat} {dT sT ty : TypeId} {d x : VV} {vd vx : Value} {eff : Eff} (h : Rel w ow bs st fr) (hroom : Room fr fid) (rd : RelV w ow bs st fr d vd) (rx : RelV w ow bs st fr x vx)
    (hv : copyV P st dT sT d x = some eff) :
    Does w ow bs st fr (fun y => fr y ∧ ¬ Mine fid y) ((do pure (Next.value (← Builtin.copy_ #[dT, sT] ty #[vd, vx])) : Sem Next).run P w) eff.v (st.ups eff.ups) := by
  unfold copyV at hv
  split at hv
  · cases hv
  · rename_i e he
    obtain ⟨hu, hne⟩ := elemT_some he
    split at hv
    · cases hv
    · split at hv
      · rename_i r p m sz off len szx xs hxs
        split at hv
        · rename_i R sz' rows hs
          split at hv
          · rename_i hc
            obtain ⟨rfl, rfl, rfl, hle, hfit, hno⟩ := hc
            simp only [Option.some.injEq] at hv
            subst hv
            obtain ⟨hr, hfresh, hn⟩ := seek_some hs
            obtain ⟨⟨ax, capx, hvx⟩, nv, f1, f2, f3, f4⟩ := first_cellsN (P := P) h rx hxs hno (min xs.length len) (Nat.min_le_left _ _)
            have htl : (xs.take (min xs.length len)).length = min xs.length len := by rw [List.length_take]; omega
            generalize hN : min xs.length len = N at f1 f2 f3 f4 htl
            have hlen : (Builtin.lenOf vx).run P w = .ok xs.length w := by rw [hvx]; simp [Builtin.lenOf]
            cases rd with
            | @al _ _ _ _ _ _ v hnf hh hsl hm =>
            obtain ⟨hbs1, hsb⟩ := hh (seek_still hs)
            obtain ⟨ad, cd, hvd, _, _, _⟩ := hsl
            have hmin : Nat.min xs.length len = N := hN
            by_cases hz : N = 0
            · subst hz
              have hnil : nv = [] := by simpa using f2
              subst hnil
              have hst : st.ups [(r, some { R with rows := modAt (putRows off (xs.take 0)) R.rows p })] = st := by
                have e : modAt (putRows off (xs.take 0)) R.rows p = R.rows := by rw [List.take_zero]; exact modAt_same off hn
                funext y
                simp only [St.ups_cons,St.ups_nil,e]
                by_cases ey : y = r
                · subst ey; rw [St.put_eq, hr]
                · rw [St.put_ne _ _ ey]
              simp only [hst]
              refine ⟨.int .i64 0, w, ow, bs, .inl ?_, h.shrink minus_sub, .c .int, Steady.refl _ _, Quiet.shrink minus_sub⟩
              rw [hvd]
              have f1' : (Builtin.firstCells (P.cellsOf e) 0 vx).run P w = .ok #[] w := f1
              cases ad <;> simp [Builtin.copy_,run_underlying hu,hlen,hmin,sizeOf_run hne,f1',storeCells,goInt]
            · rcases hsb with ⟨a, l, cap, o, cap', hb, hva, ho, hfit2, hlc⟩ | ⟨l, cap, hb, hl0, hva⟩
              · have ho' : o = a.off + off * P.cellsOf e := by
                  rcases ho with ho | ho
                  · omega
                  · exact ho
                have hpos : 0 < fid + 1 := by omega
                obtain ⟨w', ow', bs', st', q1, q2, q3, q4, q5, q6⟩ := copy_core (P := P) (p := p) (r := r) (t0 := fid) (xs.take N) nv off ⟨a.block, o, none⟩ h hr hn hb rfl rfl ho' (by rw [htl]; omega) (by rw [htl]; exact f2) f3 hne
                  (fun k hk => ⟨fun e' => hnf (by rw [← e']; exact hroom k (by omega)), hroom k (by omega)⟩) f4
                have hsub : ∀ y R', (st.ups [(r, some { R with rows := modAt (putRows off (xs.take N)) R.rows p })]) y = some R' → st' y = some R' := by
                  intro y R' hy
                  simp only [St.ups_cons,St.ups_nil] at hy
                  by_cases ey : y = r
                  · subst ey; rw [St.put_eq] at hy; rw [q5]; exact hy
                  · rw [St.put_ne _ _ ey] at hy; exact (q6 y ey R').1 hy
                refine ⟨.int .i64 ((N : Nat) : Int), w', ow', bs', .inl ?_, (q2.sub hsub).shrink minus_sub, .c .int, q3, q4.to (fun y R' _ hy => hsub y R' hy) minus_sub⟩
                rw [hva]
                simp [Builtin.copy_,run_underlying hu,hlen,hmin,sizeOf_run hne,f1,q1,goInt]
              · omega
          · cases hv
        · cases hv
      · cases hv
theorem append_op_sound {P : Program} {w ow bs st} {fr : Nat → Prop} {fid : Nat} {sT xT ty : TypeId} {s x : VV} {vs vx : Value} {eff : Eff} (h : Rel w ow bs st fr) (hroom : Room fr fid) (rs : RelV w ow bs st fr s vs) (rx : RelV w ow bs st fr x vx)
    (hv : appendV P fid st sT xT s x = some eff) :
    Does w ow bs st fr (fun y => fr y ∧ ¬ Mine fid y) ((do pure (Next.value (← Builtin.append_ #[sT, xT] ty #[vs, vx])) : Sem Next).run P w) eff.v (st.ups eff.ups) := by
  have hf0 : fr fid := by have := hroom 0 (by omega); simpa using this
  unfold appendV at hv
  split at hv
  · cases hv
  · rename_i e he
    obtain ⟨hu, hne⟩ := elemT_some he
    split at hv
    · cases hv
    · rename_i szx xs hxs
      split at hv
      · cases hv
      · rename_i hno
        simp only [not_or,ne_eq,Decidable.not_not,Bool.not_eq_false] at hno
        obtain ⟨rfl, hno, hz, hend⟩ := hno
        split at hv
        · rename_i sz ys u htake
          split at hv
          · cases hv
          · rename_i hcond
            simp only [not_or,ne_eq,Decidable.not_not] at hcond
            obtain ⟨rfl, hmax⟩ := hcond
            simp only [Option.some.injEq] at hv
            subst hv
            -- what is appended
            obtain ⟨hxk, hlen, nv, hfirst, hnl, hrows, hcells⟩ : ((∃ e', P.underlying xT = some (.slice e')) ∨ P.underlying xT = some .string) ∧ (Builtin.lenOf vx).run P w = .ok xs.length w ∧ ∃ nv : List Value,
                (∀ w' : World, w'.heap = w.heap → (Builtin.firstCells (P.cellsOf e) xs.length vx).run P w' = .ok nv.toArray w') ∧ nv.length = xs.length * P.cellsOf e ∧ (∀ (i : Nat) (row : List T), xs[i]? = some row → row.length = P.cellsOf e) ∧
                ∀ (i : Nat) (row : List T) (j : Nat) (y : T), xs[i]? = some row → row[j]? = some y → RepR w ow y (nv.getD (i * P.cellsOf e + j) undef) ∧ y ≠ .dead := by
              split at hxs
              · rename_i b
                split at hxs
                · rename_i hc
                  simp only [Bool.and_eq_true,beq_iff_eq] at hc
                  simp only [Option.some.injEq,Prod.mk.injEq] at hxs
                  obtain ⟨h1, rfl⟩ := hxs
                  rw [rel_str rx, ← h1]
                  have hl : (strRows b).length = b.size := by simp only [strRows,List.length_map,Array.length_toList]; rfl
                  obtain ⟨nv, g1, g2, g3, g4⟩ := first_string (P := P) w ow b
                  refine ⟨.inr (strT_true hc.1), by simp [Builtin.lenOf,hl], nv, fun w' hw' => by rw [hl]; exact g1 w', g2, g3, fun i row j y hi hj => ⟨g4 i row j y hi hj, ?_⟩⟩
                  · simp only [strRows,List.getElem?_map] at hi
                    obtain ⟨c, _, rfl⟩ := Option.map_eq_some_iff.1 hi
                    cases j with
                    | zero => simp at hj; rw [← hj]; simp
                    | succ j => simp at hj
                · cases hxs
              · split at hxs
                · cases hxs
                · rename_i hxe
                  cases hxe2 : elemT P xT with
                  | none => exact absurd hxe2 hxe
                  | some e2 =>
                    obtain ⟨⟨a, cap, hvx⟩, nv, g1, g2, g3, g4⟩ := first_cells (P := P) h rx hxs hno
                    exact ⟨.inl ⟨_, (elemT_some hxe2).1⟩, by rw [hvx]; simp [Builtin.lenOf], nv, g1, g2, g3, fun i row j y hi hj => ⟨g4 i row j y hi hj, noOwn_live hno hi hj⟩⟩
            -- the slice that is grown, as a root of its own
            obtain ⟨owB, bsB, stB, k1, k2, k3, k4, k5, k6, k7⟩ := takeV_sound h hf0 (fun _ _ => rfl) (Quiet.refl _ _ _) (Kept.refl _ _) htake rs
            rcases k5 with ⟨hc1, _, _⟩ | ⟨sz', es', he', hst, hbv⟩
            · cases hc1
            · simp only [T.list.injEq,true_and] at he'
              obtain ⟨rfl, rfl⟩ := he'
              cases hzz : zeroT P e with
              | none => exact absurd hzz hz
              | some z =>
                obtain ⟨v, w', ow', bs', q1, q2, q3, q4, q5, q6, q7⟩ := append_core (P := P) (ty := ty) k1 hst hbv hu hxk hne rfl hzz hlen hfirst hnl hrows
                  (fun i row j y hi hj => ⟨(hcells i row j y hi hj).1.mono k2, (hcells i row j y hi hj).2⟩) (by omega)
                have hnf : ∀ x, ¬ fr x → x ≠ fid := fun x hx e => hx (by rw [e]; exact hf0)
                have hV : ∀ x R, (st.ups (u ++ [(fid, some ⟨false, P.cellsOf e, ys ++ xs, []⟩)])) x = some R → (stB.put fid (some ⟨false, P.cellsOf e, ys ++ xs, []⟩)) x = some R := by
                  intro x R hR
                  rw [St.ups_append, St.ups_cons, St.ups_nil] at hR
                  by_cases e' : x = fid
                  · subst e'; rw [St.put_eq] at hR ⊢; exact hR
                  · rw [St.put_ne _ _ e'] at hR ⊢
                    have hx : ¬ fr x := by
                      intro hfx
                      rw [ups_other (fun r R' hm e2 => k7 r R' hm (by rw [e2]; exact hfx)), h.free x hfx] at hR
                      cases hR
                    rw [k4 x hx]; exact hR
                have hsub : ∀ x, (fr x ∧ ¬ Mine fid x) → fr x ∧ x ≠ fid := fun x hx => ⟨hx.1, fun e => hx.2 (by rw [e]; exact ⟨Nat.le_refl _, by omega⟩)⟩
                refine ⟨v, w', ow', bs', .inl (by simp [q1]), (q2.sub hV).shrink hsub, ?_, ⟨fun b hb hlt => ?_, q3.size, q3.os, q3.tape, q3.output⟩, ?_⟩
                · exact .al (fun e => e.2 ⟨Nat.le_refl _, by omega⟩) (fun _ => by rw [q5]; exact ⟨rfl, q7⟩) q6 (fun R hR => Nat.zero_le _)
                · have e1 := k2 b hb hlt
                  have e2 := q3.kept b e1.2 hlt
                  exact ⟨e2.1, e2.2⟩
                · have hq1 : Quiet bs st fr bs' (st.ups (u ++ [(fid, some ⟨false, P.cellsOf e, ys ++ xs, []⟩)])) (fun x => fr x ∧ ¬ Mine fid x) := by
                    refine ⟨fun r hr => ?_, fun r p m hr hp hm hs => ?_, fun r R' hr hR' => ?_, fun r hr => hr.1⟩
                    · rw [q4 _ (by simp [hnf r hr])]; exact k3.base r hr
                    · have hs' : Still stB r p m := by
                        rcases hs with h0 | ⟨R, h1, h2⟩
                        · exact .inl h0
                        · have := hV r R h1
                          rw [St.put_ne _ _ (hnf r hr)] at this
                          exact .inr ⟨R, this, h2⟩
                      have := k3.still r p m hr hp hm hs'
                      exact ⟨this.1, by rw [q4 _ (by simp [hnf r hr])]; exact this.2⟩
                    · have := hV r R' hR'
                      rw [St.put_ne _ _ (hnf r hr)] at this
                      exact k3.log r R' hr this
                  exact hq1
        · cases hv
end Go.VM
/- Every operation of a frame, in one law. -/
namespace Go.VM
theorem unV_run {P : Program} {w ow bs st fr} {op : UnOp} {x z : VV} {v : Value} (rx : RelV w ow bs st fr x v) (h : unV op x = some z) : ∃ u, (Op.unary op v).run P w = .ok u w ∧ RelV w ow bs st fr z u := by
  unfold unV at h
  split at h
  · rw [rel_bool rx]
    cases op <;> simp only [Option.some.injEq,reduceCtorEq] at h
    subst h
    exact ⟨_, rfl, .c .bool⟩
  · rw [rel_int rx]
    cases op <;> simp only [Option.some.injEq,reduceCtorEq] at h
    subst h
    exact ⟨_, rfl, .c .int⟩
  · cases h
theorem part_run {P : Program} {w ow bs st fr} {t : TypeId} {cs : List VV} {vs : Array Value} {off : Nat} {z : VV} (hl : cs.length = vs.size) (hr : ∀ (k : Nat) (x : VV), cs[k]? = some x → RelV w ow bs st fr x (vs.getD k undef)) (h : partV P t cs off = some z) :
    ∃ u, (part t vs off).run P w = .ok u w ∧ RelV w ow bs st fr z u := by
  unfold partV at h
  split at h
  · rename_i ha
    obtain ⟨h1, h2⟩ := isAgg_true ha w
    split at h
    · rename_i hle
      simp only [Option.some.injEq] at h
      subst h
      refine ⟨.agg (vs.extract off (off + P.cellsOf t)), by simp [part,h1,sizeOf_run h2], .agg (by simp; omega) (fun k x hx => ?_)⟩
      rw [List.getElem?_take] at hx
      split at hx
      · rename_i hk
        rw [List.getElem?_drop] at hx
        have := hr _ _ hx
        rw [Array.getD_eq_getD_getElem?] at this ⊢
        rw [Array.getElem?_extract_of_lt (by omega), ← Array.getElem?_eq_getElem (by omega)]
        exact this
      · cases hx
    · cases h
  · rename_i ha
    have h1 := isAgg_false ha w
    have hk := lt_of_getl h
    have := hr _ _ h
    refine ⟨vs[off], by simp [part,h1,Array.getElem?_eq_getElem (show off < vs.size by omega)], ?_⟩
    rw [Array.getD_eq_getD_getElem?, Array.getElem?_eq_getElem (show off < vs.size by omega)] at this
    simpa using this
  · cases h
theorem len_run {P : Program} {w ow bs st fr} {t ty : TypeId} {x : VV} {v : Value} {n : Nat} (rx : RelV w ow bs st fr x v) (ht : lenOk P t x = true) (h : lenV x = some n) :
    (Builtin.len_ #[t] ty #[v]).run P w = .ok (.int .i64 n) w := by
  rcases slice_len rx h with ⟨s, rfl, rfl, rfl⟩ | ⟨a, cap, rfl, _⟩
  · have hu := strT_true ht
    simp [Builtin.len_,run_underlying hu,goInt]
  · have hn : (elemT P t).isSome = true := by
      unfold lenOk at ht
      split at ht
      · rename_i s
        cases rx with | c h => cases h
      · exact ht
    obtain ⟨e, he⟩ := Option.isSome_iff_exists.1 hn
    have hu := (elemT_some he).1
    simp [Builtin.len_,run_underlying hu,goInt]
theorem vop_sound {P : Program} {w ow bs st} {fr : Nat → Prop} {fid : Nat} {env : Nat → VV} {a : Act} {o : Oper} {eff : Eff} (h : Rel w ow bs st fr) (he : RelE w ow bs st fr env a) (hroom : Room fr fid) (hv : vop P fid o env st = some eff) :
    Does w ow bs st fr (fun y => fr y ∧ ¬ Mine fid y) ((execOp a.eval o).run P w) eff.v (st.ups eff.ups) := by
  have R : ∀ t x, RelV w ow bs st fr (ev P env t x) (a.eval x) := fun t x => ev_rel he t x
  obtain ⟨dst, op, type, pos, after, guard⟩ := o
  unfold vop at hv
  simp only at hv
  split at hv
  · simp only [Option.some.injEq] at hv
    subst hv
    exact Does.pure h minus_sub (by simp [execOp]) (R _ _)
  · simp only [Option.some.injEq] at hv
    subst hv
    exact Does.pure h minus_sub (by simp [execOp]) (R _ _)
  · -- pick
    rename_i c x y
    split at hv
    · rename_i t ht
      simp only [Option.some.injEq] at hv
      subst hv
      have hc := R 0 c
      rw [ht] at hc
      refine Does.pure h minus_sub (val := if t then a.eval x else a.eval y) (by cases t <;> simp [execOp,rel_bool hc,asBool]) ?_
      cases t
      · exact R _ _
      · exact R _ _
    · cases hv
  · -- nilCheck
    rename_i x
    have hx := R 0 x
    have key : ∀ z, ev P env 0 x = z → (∃ r p m i j, z = .ptr r p m i j) ∨ (∃ cs, z = .rop cs) ∨ (∃ f cs, z = .fn f cs) → ((execOp a.eval ⟨dst, .nilCheck x, type, pos, after, guard⟩).run P w) = .ok (.value (a.eval x)) w := by
      intro z hz hk
      rw [hz] at hx
      generalize hu : a.eval x = u at hx ⊢
      rcases hk with ⟨r, p, m, i, j, rfl⟩ | ⟨cs, rfl⟩ | ⟨f, cs, rfl⟩
      · cases hx with | ptr hf hh hv hm => obtain ⟨b, rfl, _⟩ := hv; simp [execOp,hu]
      · cases hx with | rop => simp [execOp,hu]
      · cases hx with | fn => simp [execOp,hu]
    split at hv
    · rename_i ht
      simp only [Option.some.injEq] at hv
      subst hv
      exact Does.pure h minus_sub (key _ ht (.inl ⟨_, _, _, _, _, rfl⟩)) (by rw [ht] at hx; exact hx)
    · rename_i ht
      simp only [Option.some.injEq] at hv
      subst hv
      exact Does.pure h minus_sub (key _ ht (.inr (.inl ⟨_, rfl⟩))) (by rw [ht] at hx; exact hx)
    · rename_i ht
      simp only [Option.some.injEq] at hv
      subst hv
      exact Does.pure h minus_sub (key _ ht (.inr (.inr ⟨_, _, rfl⟩))) (by rw [ht] at hx; exact hx)
    · cases hv
  · -- alloc
    split at hv
    · rename_i z hz
      simp only [Option.some.injEq] at hv
      subst hv
      exact alloc_sound h hroom hz
    · cases hv
  · -- box
    rename_i e x
    split at hv
    · rename_i ys u hys
      split at hv
      · simp only [Option.some.injEq] at hv
        subst hv
        exact box_sound h hroom (R e x) hys (by assumption)
      · cases hv
    · cases hv
  · -- build
    rename_i t parts
    split at hv
    · rename_i z pl hz hpl
      rw [Option.map_eq_some_iff] at hv
      obtain ⟨cs, hf, rfl⟩ := hv
      obtain ⟨v, hv1, hv2⟩ := build_sound he hz hpl hf
      exact does_of h minus_sub hv1 hv2
    · cases hv
  · -- buildSlice
    rename_i t len parts
    split at hv
    · rename_i e ht
      split at hv
      · rename_i z hz
        split at hv
        · cases hv
        · rename_i hmax
          split at hv
          · rename_i cs hf
            split at hv
            · rename_i ys u hx
              simp only [Option.some.injEq] at hv
              subst hv
              exact buildSlice_sound h hroom he ht hz (by omega) hf hx
            · cases hv
          · cases hv
      · cases hv
    · cases hv
  · -- load
    rename_i t x
    rw [Option.map_eq_some_iff] at hv
    obtain ⟨z, hz, rfl⟩ := hv
    obtain ⟨u, h1, h2⟩ := loadV_run h (R 0 x) hz
    exact does_of h minus_sub h1 h2
  · -- store
    rename_i t x y
    split at hv
    · rename_i r p m i j hx
      split at hv
      · rename_i hc
        obtain ⟨c1, c2, c3⟩ := hc
        rw [Option.map_eq_some_iff] at hv
        obtain ⟨u, hu, rfl⟩ := hv
        have hp := R 0 x
        rw [hx] at hp
        exact store_op_sound h hroom hp (R t y) c1 c2 (by omega) hu
      · cases hv
    · cases hv
  · -- binOp
    rename_i op t x y yt
    rw [Option.map_eq_some_iff] at hv
    obtain ⟨z, hz, rfl⟩ := hv
    obtain ⟨u, h1, h2⟩ := binV_run (ox := x) (oy := y) (R t x) (R t y) hz
    exact does_of h minus_sub h1 h2
  · -- unOp
    rename_i op xt x
    rw [Option.map_eq_some_iff] at hv
    obtain ⟨z, hz, rfl⟩ := hv
    obtain ⟨u, h1, h2⟩ := unV_run (R 0 x) hz
    exact does_of h minus_sub h1 h2
  · -- convert
    rename_i s t x
    split at hv
    · cases hv
    · rename_i hs
      have hs : ∃ d, P.underlying s = some d := by
        simp only [hasT] at hs
        cases hu : P.underlying s with
        | none => rw [hu] at hs; simp at hs
        | some d => exact ⟨d, rfl⟩
      obtain ⟨sd, hsd⟩ := hs
      have hx := R s x
      split at hv
      · rename_i k0 n hn
        rw [hn] at hx
        split at hv
        · rename_i k hk
          simp only [Option.some.injEq] at hv
          subst hv
          refine does_of h minus_sub (val := .int k (k.wrap n)) ?_ (.c .int)
          rw [rel_int hx]
          simp [convert,run_underlying hsd,run_underlying (intT_some hk),Conv.intToInt]
        · cases hv
      · rename_i b hb
        rw [hb] at hx
        split at hv
        · rename_i hst
          simp only [Option.some.injEq] at hv
          subst hv
          refine does_of h minus_sub (val := .string b) ?_ (.c .str)
          rw [rel_str hx]
          cases sd <;> simp [convert,run_underlying hsd,run_underlying (strT_true hst)]
        · split at hv
          · rename_i e hel
            split at hv
            · rename_i hc
              simp only [Option.some.injEq] at hv
              subst hv
              have := strBytes_sound (P := P) (e := e) (s := b) h hroom
              have hrun : (convert s t (a.eval x)).run P w = (Conv.stringToBytes e b).run P w := by
                rw [rel_str hx]
                cases sd <;> simp [convert,run_underlying hsd,run_underlying (elemT_some hel).1,run_underlying (intT_some hc.1)]
              simpa only [execOp, Sem.run_bind, hrun] using this
            · cases hv
          · cases hv
      · split at hv
        · rename_i hst
          split at hv
          · rename_i e hel
            split at hv
            · rename_i hu8
              split at hv
              · rename_i rows hrows
                rw [Option.map_eq_some_iff] at hv
                obtain ⟨b, hb, rfl⟩ := hv
                have := bytesStr_run (P := P) h hx hrows hb
                refine does_of h minus_sub (val := .string b) ?_ (.c .str)
                obtain ⟨a0, cap0, hval, _⟩ := rows_rel h hx hrows
                rw [hval] at this ⊢
                have e1 := elemT_some hel
                simp only [convert,Sem.run_bind,run_underlying e1.1,run_underlying (strT_true hst),Result.andThen_ok,run_underlying (intT_some hu8)]
                exact this
              · cases hv
            · cases hv
          · cases hv
        · split at hv
          · rename_i e hel
            split at hv
            · rename_i hc
              simp only [Option.some.injEq] at hv
              subst hv
              obtain ⟨rfl, hu8, hal, hrow⟩ := hc
              exact markBytes_sound h minus_sub hel hu8 hx hal hrow
            · cases hv
          · cases hv
  · -- makeSlice
    rename_i t l c
    split at hv
    · rename_i e q1 n q2 k ht hl hc
      split at hv
      · rename_i z hz
        split at hv
        · rename_i hcond
          simp only [Option.some.injEq] at hv
          subst hv
          have h1 := R 0 l
          have h2 := R 0 c
          rw [hl] at h1
          rw [hc] at h2
          have := makeSlice_sound (P := P) (q1 := q1) (q2 := q2) h hroom ht hz hcond.1 hcond.2.1 hcond.2.2
          simpa only [execOp, rel_int h1, rel_int h2] using this
        · cases hv
      · cases hv
    · cases hv
  · -- slice
    rename_i t x lo hi
    rw [Option.map_eq_some_iff] at hv
    obtain ⟨z, hz, rfl⟩ := hv
    obtain ⟨u, h1, h2⟩ := slice_run (P := P) (R t x).unheld (vlo := lo.map a.eval) (vhi := hi.map a.eval)
      (fun y hy => by cases lo with | none => cases hy | some l => simp only [Option.map_some,Option.some.injEq] at hy; subst hy; exact ⟨_, rfl, R 0 l⟩)
      (fun hy => by cases lo with | none => rfl | some l => cases hy)
      (fun y hy => by cases hi with | none => cases hy | some l => simp only [Option.map_some,Option.some.injEq] at hy; subst hy; exact ⟨_, rfl, R 0 l⟩)
      (fun hy => by cases hi with | none => rfl | some l => cases hy) hz
    exact does_of h minus_sub h1 h2
  · -- fieldAddr
    rename_i t x f
    have hx := R 0 x
    split at hv
    · rename_i off ft r p m i j hf hr
      simp only [Option.some.injEq] at hv
      subst hv
      rw [hr] at hx
      obtain ⟨u, h1, h2⟩ := fieldAddr_run hf hx (.inl ⟨_, _, _, _, _, rfl, rfl⟩)
      exact does_of h minus_sub h1 h2
    · rename_i off ft cs hf hr
      split at hv
      · cases hv
      · rename_i hoff
        simp only [Option.some.injEq] at hv
        subst hv
        rw [hr] at hx
        obtain ⟨u, h1, h2⟩ := fieldAddr_run hf hx (.inr (.inl ⟨_, rfl, by omega, rfl⟩))
        exact does_of h minus_sub h1 h2
    · rename_i off ft cs hf hr
      split at hv
      · cases hv
      · rename_i hoff
        simp only [Option.some.injEq] at hv
        subst hv
        rw [hr] at hx
        obtain ⟨u, h1, h2⟩ := fieldAddr_run hf hx (.inr (.inr ⟨_, rfl, by omega, rfl⟩))
        exact does_of h minus_sub h1 h2
    · cases hv
  · -- field
    rename_i t x f
    have hx := R t x
    split at hv
    · rename_i off ft cs hf hr
      rw [Option.map_eq_some_iff] at hv
      obtain ⟨z, hz, rfl⟩ := hv
      rw [hr] at hx
      generalize hu : a.eval x = u at hx
      cases hx with
      | @agg _ vs hl hh =>
        obtain ⟨fs, fd, e1, e2, e3, e4, e5⟩ := fieldT_some hf
        obtain ⟨u, h1, h2⟩ := part_run (P := P) hl hh hz
        refine does_of h minus_sub (val := u) ?_ h2
        simp [Instr.field,run_underlying e1,e2,asAgg,hu,e3,e4,h1]
    · cases hv
  · -- indexAddr
    rename_i t x i
    rw [Option.map_eq_some_iff] at hv
    obtain ⟨z, hz, rfl⟩ := hv
    obtain ⟨u, h1, h2⟩ := indexAddr_run (P := P) (R t x).unheld (R 0 i) hz
    exact does_of h minus_sub h1 h2
  · -- index
    rename_i t x i
    have hx := R t x
    have hi := R 0 i
    split at hv
    · rename_i s k n hs hn
      split at hv
      · rename_i hc
        simp only [Option.some.injEq] at hv
        subst hv
        rw [hs] at hx
        rw [hn] at hi
        refine does_of h minus_sub (val := .int .u8 (s.data.toList.getD n.toNat 0).toNat) ?_ (.c .int)
        rw [rel_str hx, rel_int hi]
        have hlt : n.toNat < s.size := by omega
        have hb : s[n.toNat]? = some (s.data.toList.getD n.toNat 0) := by
          rw [getElem?_pos s n.toNat hlt]
          have : n.toNat < s.data.toList.length := by simpa using hlt
          have h2 : n.toNat < s.data.size := by simpa using hlt
          rw [List.getD_eq_getElem?_getD, List.getElem?_eq_getElem this]
          simp only [Array.getElem_toList,Option.getD_some]
          rfl
        simp [Instr.index,asIntOf,run_underlying (strT_true hc.1),hc.2.1,hb]
      · cases hv
    · cases hv
  · -- extract
    rename_i x i
    have hx := R 0 x
    split at hv
    · rename_i vs hs
      rw [Option.map_eq_some_iff] at hv
      obtain ⟨z, hz, rfl⟩ := hv
      rw [hs] at hx
      generalize hu : a.eval x = u at hx
      cases hx with
      | @tup _ us hl hh =>
        have hlt := lt_of_getl hz
        have := hh i z hz
        rw [Array.getD_eq_getD_getElem?, Array.getElem?_eq_getElem (show i < us.size by omega)] at this
        refine does_of h minus_sub (val := us[i]) ?_ (by simpa using this)
        simp [hu,Instr.extract,Array.getElem?_eq_getElem (show i < us.size by omega)]
    · cases hv
  · -- call
    rename_i c
    obtain ⟨callee, args, argTypes⟩ := c
    unfold builtinV at hv
    simp only at hv
    split at hv
    · rename_i b
      split at hv
      · rename_i x t hargs htys
        have ha : args = #[x] := by cases args; simp_all
        have ht : argTypes = #[t] := by cases argTypes; simp_all
        subst ha ht
        split at hv
        · rename_i hty
          rw [Option.map_eq_some_iff] at hv
          obtain ⟨n, hn, rfl⟩ := hv
          have hx := len_run (ty := type) (R t x).unheld hty hn
          refine does_of h minus_sub (val := .int .i64 n) ?_ (.c .int)
          simp [resolve,invoke,builtin,hx]
        · cases hv
      · rename_i x y xT yT hargs htys
        have ha : args = #[x, y] := by cases args; simp_all
        have ht : argTypes = #[xT, yT] := by cases argTypes; simp_all
        subst ha ht
        have := append_op_sound (P := P) (ty := type) h hroom (R xT x) (R yT y) hv
        simpa [execOp, resolve, invoke, builtin] using this
      · rename_i x y xT yT hargs htys
        have ha : args = #[x, y] := by cases args; simp_all
        have ht : argTypes = #[xT, yT] := by cases argTypes; simp_all
        subst ha ht
        have := copy_op_sound (P := P) (ty := type) h hroom (R xT x) (R yT y) hv
        simpa [execOp, resolve, invoke, builtin] using this
      · rename_i x y hargs
        have ha : args = #[x, y] := by cases args; simp_all
        subst ha
        have hx := R 0 x
        have hy := R 0 y
        split at hv
        · rename_i n m hn hm
          simp only [Option.some.injEq] at hv
          subst hv
          rw [hn] at hx
          rw [hm] at hy
          refine does_of h minus_sub (val := .int .i64 (if m > n then m else n)) ?_ (.c .int)
          simp [resolve,invoke,builtin,rel_int hx,rel_int hy,Builtin.max_,Builtin.max2]
        · cases hv
      · rename_i x y hargs
        have ha : args = #[x, y] := by cases args; simp_all
        subst ha
        have hx := R 0 x
        have hy := R 0 y
        split at hv
        · rename_i n m hn hm
          simp only [Option.some.injEq] at hv
          subst hv
          rw [hn] at hx
          rw [hm] at hy
          refine does_of h minus_sub (val := .int .i64 (if m < n then m else n)) ?_ (.c .int)
          simp [resolve,invoke,builtin,rel_int hx,rel_int hy,Builtin.min_,Builtin.min2]
        · cases hv
      · cases hv
    · cases hv
  · cases hv
end Go.VM
