/- New rows out of values: what the frame is told of them. -/
import Derived.Test.YtcdgdiheoejjgaaVStore
namespace Go.VM
set_option linter.unusedSimpArgs false
set_option linter.unusedVariables false

theorem setCells_row : ∀ (ys : List T) (i j : Nat) (rows : List (List T)) (row : List T), rows[i]? = some row → j + ys.length ≤ row.length → setCells i j ys rows = rows.set i (row.take j ++ ys ++ row.drop (j + ys.length))
  | [], i, j, rows, row, hr, hl => by
    simp only [setCells, List.append_nil, List.length_nil, Nat.add_zero, List.take_append_drop]
    exact (set_same hr).symm
  | y :: ys, i, j, rows, row, hr, hl => by
    simp only [List.length_cons] at hl
    simp only [setCells]
    rw [setCells_row ys i (j + 1) _ _ (setIn_row hr j y) (by simp; omega)]
    simp only [setIn, getD_of hr, List.set_set]
    congr 1
    have hj : j < row.length := by omega
    rw [List.drop_set_of_lt (by omega)]
    rw [show j + (y :: ys).length = j + 1 + ys.length from by simp; omega]
    congr 1
    rw [show (row.take j ++ y :: ys) = (row.take j ++ [y]) ++ ys from by simp]
    congr 1
    rw [List.take_succ_eq_append_getElem (by simpa using hj)]
    simp [List.take_set_of_le]

theorem Rel.relog {w ow bs st st' fr} (h : Rel w ow bs st fr) (hs : ∀ r R, st' r = some R → ∃ R0, st r = some R0 ∧ R0.box = R.box ∧ R0.sz = R.sz ∧ R0.rows = R.rows) : Rel w ow bs st' fr := by
  refine ⟨fun r R hr => ?_, fun r R hr hb => ?_, h.own, fun r hr => ?_⟩
  · obtain ⟨R0, h0, _, h2, h3⟩ := hs r R hr
    rw [← h2, ← h3]; exact h.root r R0 h0
  · obtain ⟨R0, h0, h1, _, _⟩ := hs r R hr
    exact h.box r R0 h0 (h1.trans hb)
  · cases hx : st' r with
    | none => rfl
    | some R =>
      obtain ⟨R0, h0, _⟩ := hs r R hx
      rw [h.free r hr] at h0; cases h0

theorem Quiet.to {bs st fr bs1 st1 fr1 st2 fr2} (h : Quiet bs st fr bs1 st1 fr1) (hs : ∀ x R, ¬ fr x → st2 x = some R → st1 x = some R) (hf : ∀ x, fr2 x → fr x) : Quiet bs st fr bs1 st2 fr2 := by
  refine ⟨h.base, fun r p m hr hp hm hst => ?_, fun r R' hr h' => h.log r R' hr (hs r R' hr h'), hf⟩
  refine h.still r p m hr hp hm ?_
  rcases hst with h0 | ⟨R, h1, h2⟩
  · exact .inl h0
  · exact .inr ⟨R, hs r R hr h1, h2⟩

theorem ups_other {st : St} {x : Nat} : ∀ {u : Ups}, (∀ r R', (r, R') ∈ u → r ≠ x) → (st.ups u) x = st x := by
  intro u
  induction u generalizing st with
  | nil => intro _; rfl
  | cons a u ih =>
    obtain ⟨r, R⟩ := a
    intro h
    rw [St.ups_cons, ih (fun r' R' hm => h r' R' (List.mem_cons_of_mem _ hm)), St.put_ne]
    exact fun e => h r R (List.mem_cons_self ..) e.symm

def chunk (ys : List T) (sz i : Nat) : List T := (ys.drop (i * sz)).take sz
def chunks (ys : List T) (sz n : Nat) : List (List T) := (List.range n).map (chunk ys sz)
def hollow (y : T) : T := if isOwn y then .dead else y

theorem chunk_length {ys : List T} {sz n i : Nat} (h : ys.length = n * sz) (hi : i < n) : (chunk ys sz i).length = sz := by
  simp only [chunk, List.length_take, List.length_drop, h]
  have : (i + 1) * sz ≤ n * sz := Nat.mul_le_mul_right _ hi
  rw [Nat.add_mul] at this
  omega

theorem chunk_get {ys : List T} {sz i j : Nat} (hj : j < sz) : (chunk ys sz i)[j]? = ys[i * sz + j]? := by
  simp [chunk, List.getElem?_take, hj, List.getElem?_drop]

theorem chunks_get {ys : List T} {sz n i : Nat} (hi : i < n) : (chunks ys sz n)[i]? = some (chunk ys sz i) := by
  simp [chunks, List.getElem?_map, List.getElem?_range hi]

@[simp] theorem chunks_length (ys : List T) (sz n : Nat) : (chunks ys sz n).length = n := by simp [chunks]

def mix (ys : List T) (sz n i : Nat) : List (List T) := (chunks ys sz n).take i ++ (chunks (ys.map hollow) sz n).drop i

theorem mix_get {ys : List T} {sz n i : Nat} (h : i ≤ n) (m : Nat) : (mix ys sz n i)[m]? = if m < i then (chunks ys sz n)[m]? else (chunks (ys.map hollow) sz n)[m]? := by
  unfold mix
  have hl : ((chunks ys sz n).take i).length = i := by simp; omega
  split
  · rename_i hm
    rw [List.getElem?_append_left (by omega), List.getElem?_take, if_pos hm]
  · rename_i hm
    rw [List.getElem?_append_right (by omega), List.getElem?_drop, hl]
    congr 1
    omega

theorem fillRows_sound {w : World} {r n sz t0 : Nat} {ys : List T} {box : Bool} {a : Addr} {len cap : Nat} {c : Array Value} {e z} {fr : Nat → Prop} (hlen : ys.length = n * sz) (hblk : w.heap[a.block]? = some (.cells c e z)) (hr : r < t0) :
    ∀ (k : Nat) {ow bs st} {log : List Path}, k ≤ n → Rel w ow bs st fr → st r = some ⟨box, sz, mix ys sz n (n - k), log⟩ → (bs (r, [])).2 = .slice (some a) len cap →
    (∀ (m : Nat) (y : T), (n - k) * sz ≤ m → ys[m]? = some y → Holds w ow bs st (t0 + m) y (c.getD (a.off + m) undef)) →
    ∃ ow' bs' st' log', Rel w ow' bs' st' fr ∧ Kept w ow w ow' ∧ Quiet bs st fr bs' st' fr ∧ st' r = some ⟨box, sz, chunks ys sz n, log'⟩ ∧ (∀ x, x ≠ r → ¬ (t0 ≤ x ∧ x < t0 + n * sz) → st' x = st x)
  | 0, ow, bs, st, log, hk, h, hst, hb, hh => by
    refine ⟨ow, bs, st, log, h, Kept.refl _ _, Quiet.refl _ _ _, ?_, fun _ _ _ => rfl⟩
    rw [hst]
    simp only [Option.some.injEq, Root.mk.injEq, true_and, and_true, Nat.sub_zero]
    apply List.ext_getElem?
    intro m
    rw [mix_get (Nat.le_refl _)]
    split
    · rfl
    · rename_i hm
      rw [List.getElem?_eq_none (by simp; omega), List.getElem?_eq_none (by simp; omega)]
  | k + 1, ow, bs, st, log, hk, h, hst, hb, hh => by
    have hi : n - (k + 1) < n := by omega
    generalize hidx : n - (k + 1) = i at *
    have hik : n - k = i + 1 := by omega
    have hlenH : (ys.map hollow).length = n * sz := by simpa using hlen
    have hrow : (mix ys sz n i)[i]? = some (chunk (ys.map hollow) sz i) := by
      rw [mix_get (Nat.le_of_lt hi), if_neg (Nat.lt_irrefl _), chunks_get hi]
    have hcl := chunk_length hlen hi
    have hclH := chunk_length hlenH hi
    obtain ⟨ow1, bs1, st1, g1, g2, g3, g4, g5, g6, g7, g8⟩ := fill_sound (chunk ys sz i) 0 (t0 + i * sz) (p := []) (i := i) (row := chunk (ys.map hollow) sz i) h hst (sz := sz) rfl hrow (by omega) hb hblk
      (fun m hm => by omega) (fun m y hy => by
        have hml := lt_of_getl hy
        rw [chunk_get (by omega)] at hy
        have := hh (i * sz + m) y (by omega) hy
        rw [show t0 + (i * sz + m) = t0 + i * sz + m from by omega] at this
        rw [show a.off + i * sz + (0 + m) = a.off + (i * sz + m) from by omega]
        exact this)
    have hset : setCells i 0 (chunk ys sz i) (mix ys sz n i) = mix ys sz n (n - k) := by
      rw [setCells_row _ _ _ _ _ hrow (by omega), hik]
      simp only [List.take_zero, List.nil_append, Nat.zero_add]
      rw [List.drop_eq_nil_of_le (by omega), List.append_nil]
      apply List.ext_getElem?
      intro m
      rw [List.getElem?_set]
      have hml : (mix ys sz n i).length = n := by simp [mix]; omega
      by_cases hm : i = m
      · subst m
        rw [if_pos rfl, if_pos (by omega), mix_get (by omega), if_pos (by omega), chunks_get hi]
      · rw [if_neg hm, mix_get (Nat.le_of_lt hi), mix_get (i := i + 1) (by omega)]
        by_cases hlt : m < i
        · rw [if_pos hlt, if_pos (by omega)]
        · rw [if_neg hlt, if_neg (by omega)]
    have hst1 : st1 r = some ⟨box, sz, mix ys sz n (n - k), log ++ filled [] i 0 (chunk ys sz i)⟩ := by
      rw [g4]
      simp only [modAt, hset]
    obtain ⟨ow2, bs2, st2, log2, k1, k2, k3, k4, k5⟩ := fillRows_sound hlen hblk hr k (by omega) g1 hst1 (by rw [g8]; exact hb) (fun m y hm hy => by
      rw [hik, Nat.add_mul] at hm
      refine (hh m y (by omega) hy).mono g2 (g5 _ (by omega) ?_) (g7 _ (by omega))
      rw [hcl]; omega)
    refine ⟨ow2, bs2, st2, log2, k1, fun b hb hlt => ?_, g3.trans k3, k4, fun x hx hne => ?_⟩
    · have e1 := g2 b hb hlt
      exact k2 b e1.2 hlt
    · rw [k5 x hx hne]
      refine g5 x hx (fun e => hne ?_)
      rw [hcl] at e
      have : (i + 1) * sz ≤ n * sz := Nat.mul_le_mul_right _ hi
      rw [Nat.add_mul] at this
      omega

theorem hollow_rep {w ow bs st t y v} (h : Holds w ow bs st t y v) : RepR w ow (hollow y) v := by
  rcases h with ⟨h1, h2, h3⟩ | ⟨sz, es, rfl, _⟩
  · simp only [hollow, h1]; exact h3
  · simp only [hollow, isOwn, if_true]; exact .dead

/-- A new row of values: lists move into it. -/
theorem newRow_sound {w : World} {ow bs st} {fr fr' : Nat → Prop} {fid : Nat} (h : Rel w ow bs st fr) {xs : List VV} {vs : List Value} {ys : List T} {u : Ups} (hx : takeVs st xs = some (ys, u)) (hl : xs.length = vs.length)
    (rx : ∀ (k : Nat) (x : VV) (v : Value), xs[k]? = some x → vs[k]? = some v → RelV w ow bs st fr x v) (hf : ∀ c, c ≤ xs.length → fr (fid + c)) (hf' : ∀ x, fr' x → fr x ∧ ¬ (fid ≤ x ∧ x < fid + 1 + xs.length))
    {n sz cap : Nat} (hn : xs.length = n * sz) (e : TypeId) (z : Nat × Nat) (c : Array Value) (hc : ∀ (k : Nat) (v : Value), vs[k]? = some v → c.getD k undef = v) (hcap : n ≤ cap) (hsz : cap * sz ≤ c.size) (free : Unfrozen z c.size) (box : Bool) (hbox : box = true → n = 1 ∧ cap = 1) :
    ∃ ow' bs', Rel (w.alloc (.cells c e z)) ow' bs' (st.ups (u ++ [(fid, some ⟨box, sz, chunks ys sz n, []⟩)])) fr' ∧ Steady w ow (w.alloc (.cells c e z)) ow' ∧
      Quiet bs st fr bs' (st.ups (u ++ [(fid, some ⟨box, sz, chunks ys sz n, []⟩)])) fr' ∧ bs' (fid, []) = (sz, .slice (some ⟨w.heap.size, 0, none⟩) n cap) := by
  obtain ⟨owB, bsB, stB, g1, g2, g3, g4, g5, g6, g7, g8⟩ := takeVs_sound xs vs ys u (fid + 1) h (fun k hk => by have := hf (k + 1) (by omega); rwa [show fid + (k + 1) = fid + 1 + k from by omega] at this) (fun _ _ => rfl) (Quiet.refl _ _ _) (Kept.refl _ _) hx hl rx
  have hf0 : fr fid := by have := hf 0 (by omega); simpa using this
  have hys : ys.length = n * sz := by rw [g5]; exact hn
  have hysH : (ys.map hollow).length = n * sz := by simpa using hys
  have hval : ∀ (m : Nat) (y : T), ys[m]? = some y → Holds w owB bsB stB (fid + 1 + m) y (c.getD m undef) := by
    intro m y hy
    have hml : m < vs.length := by have := lt_of_getl hy; omega
    obtain ⟨v, hv⟩ : ∃ v, vs[m]? = some v := ⟨_, List.getElem?_eq_getElem hml⟩
    rw [hc m v hv]
    exact g6 m y v hy hv
  obtain ⟨k1, k2, k3⟩ := g1.alloc (r := fid) ⟨hf0, by omega⟩ (sz := sz) (rows := chunks (ys.map hollow) sz n) (cap := cap) (c := c) (e := e) (z := z) box hsz free (by simpa [chunks] using hcap)
    (fun i row hi => by
      have hin : i < n := by have := lt_of_getl hi; simpa [chunks] using this
      rw [chunks_get hin] at hi
      simp only [Option.some.injEq] at hi
      subst hi
      exact chunk_length hysH hin)
    (fun i row j x hi hj => by
      have hin : i < n := by have := lt_of_getl hi; simpa [chunks] using this
      rw [chunks_get hin] at hi
      simp only [Option.some.injEq] at hi
      subst hi
      have hjl : j < sz := by have := lt_of_getl hj; rwa [chunk_length hysH hin] at this
      rw [chunk_get hjl, List.getElem?_map] at hj
      obtain ⟨y, hy, rfl⟩ := Option.map_eq_some_iff.1 hj
      exact .inl (hollow_rep (hval _ y hy)))
    (fun hb => ⟨by simpa [chunks] using (hbox hb).1, (hbox hb).2⟩)
  have hblk : (w.alloc (.cells c e z)).heap[w.heap.size]? = some (.cells c e z) := by show (w.heap.push _)[w.heap.size]? = _; simp
  obtain ⟨ow2, bs2, st2, log2, m1, m2, m3, m4, m5⟩ := fillRows_sound (r := fid) (t0 := fid + 1) (a := ⟨w.heap.size, 0, none⟩) (n := n) (sz := sz) (ys := ys) (box := box) (len := (chunks (ys.map hollow) sz n).length) (cap := cap) hys hblk (by omega) n (Nat.le_refl _) k1 (log := [])
    (by rw [St.put_eq]; simp [mix]) (by simp [newBase]) (fun m y _ hy => by
      have := hval m y hy
      have hne : fid + 1 + m ≠ fid := by omega
      simp only [Nat.zero_add]
      exact this.mono k2.kept (St.put_ne _ _ hne) (newBase_ne _ hne))
  have hbase : bs2 (fid, []) = (sz, .slice (some ⟨w.heap.size, 0, none⟩) n cap) := by
    have h1 := m3.base fid (by simp)
    rw [h1]
    simp [newBase, chunks]
  have hV : ∀ x R, (st.ups (u ++ [(fid, some ⟨box, sz, chunks ys sz n, []⟩)])) x = some R → ∃ R0, st2 x = some R0 ∧ R0.box = R.box ∧ R0.sz = R.sz ∧ R0.rows = R.rows ∧ (x ≠ fid → R0 = R) := by
    intro x R hR
    rw [St.ups_append, St.ups_cons, St.ups_nil] at hR
    by_cases ex : x = fid
    · subst ex
      simp only [St.put_eq, Option.some.injEq] at hR
      subst hR
      exact ⟨_, m4, rfl, rfl, rfl, fun e => absurd rfl e⟩
    · rw [St.put_ne _ _ ex] at hR
      have hnf : ¬ fr x := by
        intro hfx
        rw [ups_other (fun r R' hm e => g8 r R' hm (by rw [e]; exact hfx)), h.free x hfx] at hR
        cases hR
      have hnt : ¬ (fid + 1 ≤ x ∧ x < fid + 1 + n * sz) := by
        intro hx'
        apply hnf
        have := hf (x - fid) (by omega)
        rwa [show fid + (x - fid) = x from by omega] at this
      rw [m5 x ex hnt, St.put_ne _ _ ex, g4 x hnf]
      exact ⟨R, hR, rfl, rfl, rfl, fun _ => rfl⟩
  refine ⟨ow2, bs2, (m1.relog (fun r R hr => by obtain ⟨R0, q1, q2, q3, q4, _⟩ := hV r R hr; exact ⟨R0, q1, q2, q3, q4⟩)).shrink (fun x hx => ?_), ?_, ?_, hbase⟩
  · have := hf' x hx
    exact ⟨⟨this.1, by omega⟩, by omega⟩
  · exact ⟨fun b hb hlt => by
      have e1 := g2 b hb hlt
      have e2 := k2.kept b e1.2 hlt
      have e3 := m2 b e2.2 (Nat.lt_of_lt_of_le hlt k2.size)
      exact ⟨e3.1.trans e2.1, e3.2⟩, k2.size, k2.os, k2.tape, k2.output⟩
  · refine ((g3.trans k3).trans m3).to (fun x R hnf hR => ?_) (fun x hx => (hf' x hx).1)
    obtain ⟨R0, q1, _, _, _, q5⟩ := hV x R hR
    rw [q1, q5 (fun e => hnf (by rw [e]; exact hf0))]

end Go.VM
