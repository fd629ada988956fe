/- Volumes: a volume that is right has as many nodes as items and one more. The law FnVolumes. -/
import Derived.Test.YthaobdlenbbhoaaPFDone
import Derived.Test.YthaobdlenbbhoaaPFDrawX
namespace Go.Proofs.Ythaobdlenbbhoaa
open Go.VM Go
set_option maxRecDepth 100000
set_option linter.unusedSimpArgs false
set_option linter.unusedVariables false
def cntB : List Bool → Nat
  | [] => 0
  | b :: l => (if b = true then 1 else 0) + cntB l
theorem cntB_set : ∀ (l : List Bool) (k : Nat), k < l.length → l.getD k false = false → cntB (l.set k true) = cntB l + 1
  | [], k, h, _ => absurd h (Nat.not_lt_zero _)
  | b :: l, 0, _, h => by
    simp only [List.getD_cons_zero] at h
    subst h
    simp only [List.set_cons_zero, cntB]
    simp
    omega
  | b :: l, k + 1, h, hf => by
    have := cntB_set l k (by simpa using h) (by simpa using hf)
    simp only [List.set_cons_succ, cntB, this]
    omega
/-- What is marked has a text. -/
def MetOk (l : List ByteArray) (m : List Bool) : Prop := ∀ k, m.getD k false = true → l.getD k ⟨#[]⟩ ≠ ⟨#[]⟩
theorem nodeRead_text {s : ByteArray} (h : (nodeRead s).2 = true) : s ≠ ⟨#[]⟩ := by
  rintro rfl
  exact absurd h (by decide)
theorem goKids_cnt {l : List ByteArray} {g : Nat → List Bool → Bool × List Bool} {it : Nat → ByteArray → List It3}
    (hlen : ∀ k m, m.length = 12 → (g k m).2.length = 12)
    (H : ∀ k m pre, k < 12 → m.length = 12 → MetOk l m → (g k m).1 = true → cntB (g k m).2 = cntB m + (it k pre).length + 1 ∧ MetOk l (g k m).2) :
    ∀ (xs : List ByteArray) (ys : List Int) (m : List Bool) (pre : ByteArray), xs.length = ys.length → (∀ y ∈ ys, 1 ≤ y ∧ y ≤ 11) → m.length = 12 → MetOk l m → (goKids g ys m).1 = true →
      cntB (goKids g ys m).2 = cntB m + (itemsK l it xs ys pre).length ∧ MetOk l (goKids g ys m).2
  | [], [], m, pre, _, _, _, hm, _ => by rw [goKids, itemsK]; exact ⟨rfl, hm⟩; intros; contradiction
  | [], _ :: _, m, pre, h, _, _, _, _ => nomatch h
  | _ :: _, [], m, pre, h, _, _, _, _ => nomatch h
  | a :: xs, y :: ys, m, pre, h, hy, hml, hm, e => by
    rw [goKids] at e ⊢
    split at e
    · rename_i c
      have hy0 := hy y (List.mem_cons_self ..)
      obtain ⟨h1, h2⟩ := H y.toNat m (pre ++ a ++ ⟨#[47]⟩) (by omega) hml hm c
      obtain ⟨h3, h4⟩ := goKids_cnt hlen H xs ys (g y.toNat m).2 pre (by simpa using h) (fun z hz => hy z (List.mem_cons_of_mem _ hz)) (hlen _ _ hml) h2 e
      rw [if_pos c, itemsK]
      refine ⟨?_, h4⟩
      rw [h3, h1]
      simp only [List.length_cons, List.length_append]
      omega
    · cases e
theorem goI_cnt (l : List ByteArray) : ∀ (f k : Nat) (m : List Bool) (pre : ByteArray), k < 12 → m.length = 12 → MetOk l m → (goI l f k m).1 = true → cntB (goI l f k m).2 = cntB m + (itemsG l f k pre).length + 1 ∧ MetOk l (goI l f k m).2
  | 0, k, m, pre, _, _, _, h => nomatch h
  | f + 1, k, m, pre, hk, hml, hm, h => by
    rw [goI] at h ⊢
    split at h
    · rename_i c
      rw [if_pos c, itemsG]
      have hs : MetOk l (m.set k true) := by
        intro j hj
        by_cases e : j = k
        · subst e; exact nodeRead_text c.1
        · refine hm j ?_
          rw [List.getD_eq_getElem?_getD, List.getElem?_set_ne (fun h => e h.symm), ← List.getD_eq_getElem?_getD] at hj
          exact hj
      have hq := nodeRead_len (l.getD k ⟨#[]⟩)
      obtain ⟨h1, h2⟩ := goKids_cnt (l := l) (it := itemsG l f) (goI_len l f) (fun k m pre => goI_cnt l f k m pre) (nodeRead (l.getD k ⟨#[]⟩)).1.names (nodeRead (l.getD k ⟨#[]⟩)).1.kids (m.set k true) pre (by omega) (nodeRead_kids _) (by simpa using hml) hs h
      refine ⟨?_, h2⟩
      rw [h1, cntB_set m k (by omega) c.2.1]
      omega
    · cases h
theorem used_cnt : ∀ (l : List ByteArray) (m : List Bool), l.length = m.length → (∀ k, k < l.length → (decide (l.getD k ⟨#[]⟩ = ⟨#[]⟩) || m.getD k false) = true) → MetOk l m → usedF l = cntB m
  | [], [], _, _, _ => rfl
  | [], _ :: _, h, _, _ => nomatch h
  | _ :: _, [], h, _, _ => nomatch h
  | s :: l, b :: m, h, h1, h2 => by
    have ih := used_cnt l m (by simpa using h) (fun k hk => by simpa using h1 (k + 1) (by simpa using hk)) (fun k hk => by simpa using h2 (k + 1) (by simpa using hk))
    have a := h1 0 (by simp)
    have c := h2 0
    simp only [List.getD_cons_zero, Bool.or_eq_true, decide_eq_true_eq] at a c
    rw [usedF, cntB, ih]
    cases b
    · rw [if_pos (by simpa using a)]; rfl
    · rw [if_neg (c rfl)]; rfl
theorem volOk_count {l : List ByteArray} (h : volOk l = true) : (itemsV l).length + 1 = usedF l := by
  rw [itemsV, if_pos h]
  unfold volOk at h
  simp only [Bool.and_eq_true, decide_eq_true_eq] at h
  obtain ⟨h12, hg, ha⟩ := h
  have h0 : MetOk l met0 := by
    intro k hk
    exfalso
    by_cases h : k < 12
    · rw [List.getD_eq_getElem?_getD, met0, List.getElem?_replicate, if_pos h] at hk; cases hk
    · rw [List.getD_eq_getElem?_getD, List.getElem?_eq_none (by rw [met0_len]; omega)] at hk; cases hk
  obtain ⟨h1, h2⟩ := goI_cnt l 5 0 met0 ⟨#[]⟩ (by decide) rfl h0 hg
  have h3 := used_cnt l (goI l 5 0 met0).2 (by rw [h12, goI_len l 5 0 met0 rfl]) (fun k hk => by
    rw [List.all_eq_true] at ha
    exact ha k (List.mem_range.2 (by omega))) h2
  rw [h3, h1]
  have : cntB met0 = 0 := rfl
  omega
theorem free_text {l : List ByteArray} (h : 0 ≤ freeV l) : 1 ≤ freeV l ∧ freeV l < l.length ∧ l.getD (freeV l).toNat ⟨#[]⟩ = ⟨#[]⟩ := by
  unfold freeV at h ⊢
  split at h
  · rename_i h12
    rw [if_pos h12]
    have key : ∀ (q : List ByteArray) (i : Nat), 0 ≤ idxOf (fun s => decide (s = ⟨#[]⟩)) q i → (i : Int) ≤ idxOf (fun s => decide (s = ⟨#[]⟩)) q i ∧ idxOf (fun s => decide (s = ⟨#[]⟩)) q i < i + q.length ∧ q.getD ((idxOf (fun s => decide (s = ⟨#[]⟩)) q i).toNat - i) ⟨#[]⟩ = ⟨#[]⟩ := by
      intro q
      induction q with
      | nil => intro i hi; exact absurd hi (by rw [idxOf]; decide)
      | cons s q ih =>
        intro i hi
        rw [idxOf] at hi ⊢
        by_cases hs : s = ⟨#[]⟩
        · rw [if_pos (by simp [hs])]
          refine ⟨Int.le_refl _, by simp only [List.length_cons]; omega, ?_⟩
          rw [Int.toNat_natCast, Nat.sub_self]
          exact hs
        · rw [if_neg (by simp [hs])] at hi ⊢
          obtain ⟨a, b, c⟩ := ih (i + 1) hi
          refine ⟨by omega, by simp only [List.length_cons]; omega, ?_⟩
          have : (idxOf (fun s => decide (s = ⟨#[]⟩)) q (i + 1)).toNat - i = ((idxOf (fun s => decide (s = ⟨#[]⟩)) q (i + 1)).toNat - (i + 1)) + 1 := by omega
          rw [this, List.getD_cons_succ]
          exact c
    obtain ⟨a, b, c⟩ := key (l.drop 1) 1 h
    unfold freeF at h ⊢
    refine ⟨a, by simp only [List.length_drop] at b; omega, ?_⟩
    rw [List.getD_eq_getElem?_getD, List.getElem?_drop, ← List.getD_eq_getElem?_getD] at c
    have e : 1 + ((idxOf (fun s => decide (s = ⟨#[]⟩)) (List.drop 1 l) 1).toNat - 1) = (idxOf (fun s => decide (s = ⟨#[]⟩)) (List.drop 1 l) 1).toNat := by omega
    rw [e] at c
    exact c
  · exact absurd h (by decide)
theorem read_text {s : ByteArray} (h : (nodeRead s).2 = true) : nodeText (nodeRead s).1 = s := by
  unfold nodeRead at h ⊢
  split
  · rename_i h0; rw [if_pos h0] at h; cases h
  · rename_i h0
    rw [if_neg h0] at h
    split
    · assumption
    · rename_i h1; rw [if_neg h1] at h; cases h
theorem volNew_ok : volOk volNew = true := by decide +kernel
end Go.Proofs.Ythaobdlenbbhoaa
namespace Go.Proofs.Ythaobdlenbbhoaa
open Go.VM Go
set_option maxRecDepth 100000
set_option linter.unusedSimpArgs false
set_option linter.unusedVariables false
attribute [-go_sem] runW_cons
attribute [local congr] vw_congr runV_congr runH_congr runW_congr runX_congr

theorem typed_bytes {k : Nat} {ts : List T} (h : typed Try.prog (k + 4) 22 ts) : ∃ l : List UInt8, ts = [.list false 1 (l.map bRow)] ∧ l.length < 2 ^ 63 := by
  simp only [typed, Try.underlying22, Try.underlying5, cellsOf_5] at h
  obtain ⟨rows, rfl, hlen, hrows⟩ := h
  obtain ⟨l, rfl, hl⟩ := map_of (f := bRow) (Q := fun _ => True) (rows := rows) (fun r hr => by
    obtain ⟨i, rfl, hs⟩ := hrows r hr
    simp only [Lit.wf, Bool.and_eq_true, decide_eq_true_eq] at hs
    have h0 : IntKind.min .u8 = 0 := by decide
    have h1 : IntKind.max .u8 = 255 := by decide
    rw [h0, h1] at hs
    refine ⟨UInt8.ofNat i.toNat, ?_, trivial⟩
    have e : ((UInt8.ofNat i.toNat).toNat : Int) = i := by
      rw [UInt8.toNat_ofNat']; omega
    simp only [bRow, e])
  exact ⟨l, rfl, by simpa using hlen⟩

theorem runs_4 (L : List UInt8) (hL : L.length < 2 ^ 63) : Runs Try.prog 4 [.one (.v (.list false 1 (L.map bRow)))] [.one (.v (.bool (decide (1048576 < (L.length : Int)))))] [] := by
  refine runs_tab (tab := [(0, .c (.list false 1 (L.map bRow)))]) (rts := []) (n := 6) (k := 1) Try.func4 rfl rfl (by simp) rfl (fun t => ?_) rfl ?_
  · rcases t with _ | t <;> rfl
  (refine vw_go rfl ?_; simp only [go_sem, setCells, setIn])
  (refine vw_go rfl ?_; simp only [go_sem, setCells, setIn])
  exact vw_ret (e_ret (ret_of rfl rfl (by simp [RB]) rfl rfl))

set_option maxHeartbeats 2000000 in
theorem runs_3 (L : List UInt8) (hL63 : L.length < 2 ^ 63) : Runs Try.prog 3 [.one (.v (.list false 1 (L.map bRow)))] [.one (.v (.bool true))] [] := by
  refine runs_tab (tab := [(0, .c (.list false 1 (L.map bRow)))]) (rts := []) (n := 101) (k := 1) Try.func3 rfl rfl (by simp) rfl (fun t => ?_) rfl ?_
  · rcases t with _ | t <;> rfl
  have rB := runs_4 L hL63
  by_cases hbig : 1048576 < (L.length : Int)
  · rw [decide_eq_true hbig] at rB
    (refine vw_go rfl ?_; simp only [go_sem, setCells, setIn])
    refine vw_seq ?_
    (refine vw_go rfl ?_; simp only [go_sem, setCells, setIn])
    (refine ⟨_, _, call_rx [0] Try.func4 (rB) rfl rfl rfl rfl rfl rfl rfl (by simp [lendAll, lendC, seek, fresh, nav, rcells, RT.cells, VV.cells, tabE_cons, tabS_cons, ev, take_map_len, sRow_r1, sRow_comp, sRow_clean, nRow_r1, nRow_comp, nRow_clean, bRow_r1, bRow_clean]) rfl (by simp [rcells, RT.cells, CT.clean, T.clean, sRow_r1, sRow_comp, sRow_clean, nRow_r1, nRow_comp, nRow_clean, bRow_r1, bRow_clean]) rfl rfl, ?_⟩)
    simp only [runH, runX, go_sem, setCells, setIn]
    (refine vw_cond (t := true) rfl (fun _ => ?_) (fun h => nomatch h))
    (refine vw_go rfl ?_; simp only [go_sem, setCells, setIn])
    exact vw_ret (r_then (e_ret (ret_of rfl rfl (by simp [RB]) rfl rfl)))
  have hL : L.length < 2 ^ 60 := by omega
  rw [decide_eq_false hbig] at rB
  have hfit := drawV_fit L (newC L)
  have rD := runs_5 L hL _ rfl
  have rU := runs_7 L hL _ rfl
  have rF := runs_8 L hL _ rfl
  have rN := runs_14 L hL _ rfl _ rfl
  generalize belV L (drawV L (newC L)).2 14 - 1 = k at rN
  generalize (drawV L (newC L)).1 = l at rD rU rF rN hfit
  obtain ⟨f1, f2⟩ := hfit
  have hl : l.length < 2 ^ 60 := by omega
  have hsz : ∀ s ∈ l, s.size ≤ 2 ^ 20 := fun s hs => Nat.le_trans (f2 s hs) (by decide)
  have rVi := runs_6 l hl hsz
  have rVs := runs_10 l hl hsz
  have rUi := runs_11 l hl
  have rUs := runs_12 l hl
  have rFi := runs_9 l hl
  have rFs := runs_FreeNodeS l hl
  have rAi := runs_15 l hl hsz k _ rfl
  have rAs := runs_16 l hl hsz k _ rfl
  have hfree := free_text (l := l)
  have hcount := volOk_count (l := l)
  have hule := usedF_le l
  have rI := runs_19 l hl hsz
  have hil : (itemsV l).length ≤ 2 ^ 20 := by
    unfold itemsV
    split
    · exact Nat.le_trans (itemsG_len l 5 0 _) (by decide)
    · exact Nat.zero_le _
  generalize itemsV l = its at rI hcount hil
  generalize usedF l = u at rUi rUs hcount hule
  generalize freeV l = fr at rFi rFs hfree
  have bl : List.take l.length (l.map sRow) = l.map sRow := List.take_of_length_le (by simp)
  (refine vw_go rfl ?_; simp only [go_sem, setCells, setIn])
  refine vw_seq ?_
  (refine vw_go rfl ?_; simp only [go_sem, setCells, setIn])
  (refine ⟨_, _, call_rx [0] Try.func4 (rB) rfl rfl rfl rfl rfl rfl rfl (by simp [lendAll, lendC, seek, fresh, nav, rcells, RT.cells, VV.cells, tabE_cons, tabS_cons, ev, take_map_len, sRow_r1, sRow_comp, sRow_clean, nRow_r1, nRow_comp, nRow_clean, bRow_r1, bRow_clean]) rfl (by simp [rcells, RT.cells, CT.clean, T.clean, sRow_r1, sRow_comp, sRow_clean, nRow_r1, nRow_comp, nRow_clean, bRow_r1, bRow_clean]) rfl rfl, ?_⟩)
  simp only [runH, runX, go_sem, setCells, setIn]
  (refine vw_cond (t := false) rfl (fun h => nomatch h) (fun _ => ?_))
  refine vw_skip (n_then ?_)
  (refine vw_go rfl ?_; simp only [go_sem, setCells, setIn])
  (refine ⟨_, _, call_rx [0] Try.func5 (rD) rfl rfl rfl rfl rfl rfl rfl (by simp [lendAll, lendC, seek, fresh, nav, rcells, RT.cells, VV.cells, tabE_cons, tabS_cons, ev, take_map_len, sRow_r1, sRow_comp, sRow_clean, nRow_r1, nRow_comp, nRow_clean, bRow_r1, bRow_clean]) rfl (by simp [rcells, RT.cells, CT.clean, T.clean, sRow_r1, sRow_comp, sRow_clean, nRow_r1, nRow_comp, nRow_clean, bRow_r1, bRow_clean]) rfl rfl, ?_⟩)
  simp only [runH, runX, bl, go_sem, setCells, setIn]
  (refine vw_go rfl ?_; simp only [bl, go_sem, setCells, setIn])
  (refine ⟨_, _, call_rx [0] Try.func6 (rVi) rfl rfl rfl rfl rfl rfl rfl (by simp [lendAll, lendC, seek, fresh, nav, rcells, RT.cells, VV.cells, tabE_cons, tabS_cons, ev, take_map_len, sRow_r1, sRow_comp, sRow_clean, nRow_r1, nRow_comp, nRow_clean, bRow_r1, bRow_clean, bl]) rfl (by simp [rcells, RT.cells, CT.clean, T.clean, sRow_r1, sRow_comp, sRow_clean, nRow_r1, nRow_comp, nRow_clean, bRow_r1, bRow_clean, bl]) rfl rfl, ?_⟩)
  simp only [runH, runX, bl, go_sem, setCells, setIn]
  (refine vw_go rfl ?_; simp only [bl, go_sem, setCells, setIn])
  (refine ⟨_, _, call_rx [0] Try.func7 (rU) rfl rfl rfl rfl rfl rfl rfl (by simp [lendAll, lendC, seek, fresh, nav, rcells, RT.cells, VV.cells, tabE_cons, tabS_cons, ev, take_map_len, sRow_r1, sRow_comp, sRow_clean, nRow_r1, nRow_comp, nRow_clean, bRow_r1, bRow_clean]) rfl (by simp [rcells, RT.cells, CT.clean, T.clean, sRow_r1, sRow_comp, sRow_clean, nRow_r1, nRow_comp, nRow_clean, bRow_r1, bRow_clean]) rfl rfl, ?_⟩)
  simp only [runH, runX, bl, go_sem, setCells, setIn]
  (refine vw_go rfl ?_; simp only [bl, go_sem, setCells, setIn])
  (refine ⟨_, _, call_rx [0] Try.func8 (rF) rfl rfl rfl rfl rfl rfl rfl (by simp [lendAll, lendC, seek, fresh, nav, rcells, RT.cells, VV.cells, tabE_cons, tabS_cons, ev, take_map_len, sRow_r1, sRow_comp, sRow_clean, nRow_r1, nRow_comp, nRow_clean, bRow_r1, bRow_clean]) rfl (by simp [rcells, RT.cells, CT.clean, T.clean, sRow_r1, sRow_comp, sRow_clean, nRow_r1, nRow_comp, nRow_clean, bRow_r1, bRow_clean]) rfl rfl, ?_⟩)
  simp only [runH, runX, bl, go_sem, setCells, setIn]
  (refine vw_go rfl ?_; simp only [bl, go_sem, setCells, setIn])
  (refine ⟨_, _, call_rx [0] Try.func9 (rFi) rfl rfl rfl rfl rfl rfl rfl (by simp [lendAll, lendC, seek, fresh, nav, rcells, RT.cells, VV.cells, tabE_cons, tabS_cons, ev, take_map_len, sRow_r1, sRow_comp, sRow_clean, nRow_r1, nRow_comp, nRow_clean, bRow_r1, bRow_clean, bl]) rfl (by simp [rcells, RT.cells, CT.clean, T.clean, sRow_r1, sRow_comp, sRow_clean, nRow_r1, nRow_comp, nRow_clean, bRow_r1, bRow_clean, bl]) rfl rfl, ?_⟩)
  simp only [runH, runX, bl, go_sem, setCells, setIn]
  have bj : 0 ≤ fr → (l.map sRow).getD fr.toNat [] = [.str ⟨#[]⟩] := fun h => by
    obtain ⟨h1, h2, h3⟩ := hfree h
    have h4 : fr.toNat < l.length := by omega
    rw [List.getD_eq_getElem?_getD, List.getElem?_map, List.getElem?_eq_getElem h4]
    rw [List.getD_eq_getElem?_getD, List.getElem?_eq_getElem h4] at h3
    exact congrArg (fun x => [T.str x]) h3
  refine vw_join (α := Unit) (fun z => ⟨tabE [(0, .c (.list false 1 (L.map bRow))), (3, .al 1 [] 0 1 0 l.length), (4, .c (.bool (volOk l)))], tabS [(1, some ⟨false, 1, l.map sRow, []⟩)], 2⟩) (fun z => True) ?_ ?_
  · (refine vw_go rfl ?_; simp only [bl, go_sem, setCells, setIn])
    (refine ⟨_, _, call_rx [0] Try.func10 (rVs) rfl rfl rfl rfl rfl rfl rfl (by simp [lendAll, lendC, seek, fresh, nav, rcells, RT.cells, VV.cells, tabE_cons, tabS_cons, ev, take_map_len, sRow_r1, sRow_comp, sRow_clean, nRow_r1, nRow_comp, nRow_clean, bRow_r1, bRow_clean, bl]) rfl (by simp [rcells, RT.cells, CT.clean, T.clean, sRow_r1, sRow_comp, sRow_clean, nRow_r1, nRow_comp, nRow_clean, bRow_r1, bRow_clean, bl]) rfl rfl, ?_⟩)
    (unfold runH; simp (maxSteps := 1000000) only [bl, beq_self_eq_true, go_sem, setCells, setIn])
    (refine ⟨_, _, call_rx [0] Try.func11 (rUi) rfl rfl rfl rfl rfl rfl rfl (by simp [lendAll, lendC, seek, fresh, nav, rcells, RT.cells, VV.cells, tabE_cons, tabS_cons, ev, take_map_len, sRow_r1, sRow_comp, sRow_clean, nRow_r1, nRow_comp, nRow_clean, bRow_r1, bRow_clean, bl]) rfl (by simp [rcells, RT.cells, CT.clean, T.clean, sRow_r1, sRow_comp, sRow_clean, nRow_r1, nRow_comp, nRow_clean, bRow_r1, bRow_clean, bl]) rfl rfl, ?_⟩)
    (unfold runH; simp (maxSteps := 1000000) only [bl, beq_self_eq_true, go_sem, setCells, setIn])
    (refine ⟨_, _, call_rx [0] Try.func12 (rUs) rfl rfl rfl rfl rfl rfl rfl (by simp [lendAll, lendC, seek, fresh, nav, rcells, RT.cells, VV.cells, tabE_cons, tabS_cons, ev, take_map_len, sRow_r1, sRow_comp, sRow_clean, nRow_r1, nRow_comp, nRow_clean, bRow_r1, bRow_clean, bl]) rfl (by simp [rcells, RT.cells, CT.clean, T.clean, sRow_r1, sRow_comp, sRow_clean, nRow_r1, nRow_comp, nRow_clean, bRow_r1, bRow_clean, bl]) rfl rfl, ?_⟩)
    (unfold runH; simp (maxSteps := 1000000) only [bl, beq_self_eq_true, go_sem, setCells, setIn])
    (refine ⟨_, _, call_rx [0] Try.func13 (rFs) rfl rfl rfl rfl rfl rfl rfl (by simp [lendAll, lendC, seek, fresh, nav, rcells, RT.cells, VV.cells, tabE_cons, tabS_cons, ev, take_map_len, sRow_r1, sRow_comp, sRow_clean, nRow_r1, nRow_comp, nRow_clean, bRow_r1, bRow_clean, bl]) rfl (by simp [rcells, RT.cells, CT.clean, T.clean, sRow_r1, sRow_comp, sRow_clean, nRow_r1, nRow_comp, nRow_clean, bRow_r1, bRow_clean, bl]) rfl rfl, ?_⟩)
    by_cases hfr : 0 ≤ fr
    · have bj' := bj hfr
      obtain ⟨h1, h2, h3⟩ := hfree hfr
      have h4 : fr.toNat < l.length := by omega
      simp only [runH, runX, bl, hfr, bj', h2, h4, go_sem, setCells, setIn]
      (refine vw_cond (t := false) rfl (fun h => nomatch h) (fun _ => ?_))
      refine vw_skip (n_then ⟨(), ?_⟩)
      (refine norm_to [(132097, 1)] rfl ?_ ?_ <;> simp only [go_sem])
    · simp only [runH, runX, bl, hfr, go_sem, setCells, setIn]
      (refine vw_cond (t := false) rfl (fun h => nomatch h) (fun _ => ?_))
      refine vw_skip (n_then ⟨(), ?_⟩)
      (refine norm_to [(132097, 1)] rfl ?_ ?_ <;> simp only [go_sem])
  intro z _
  have hsm : (nodeAt l k).1.small ∧ (nodeAt l k).1.names.length ≤ 2 ^ 20 ∧ (nodeAt l k).1.data.size < 2 ^ 59 := by
    unfold nodeAt
    split
    · obtain ⟨a1, a2, a3, a4⟩ := nodeRead_small (l.getD k.toNat ⟨#[]⟩)
      exact ⟨⟨by omega, by omega, fun s hs => by have := a3 s hs; omega⟩, by omega, by omega⟩
    · exact ⟨⟨by decide, by decide, fun s hs => nomatch hs⟩, by decide, by decide⟩
  have hthere : (nodeAt l k).2 = true → 0 ≤ k ∧ k < l.length ∧ k.toNat < l.length ∧ (l.map sRow).getD k.toNat [] = [.str (nodeText (nodeAt l k).1)] := by
    intro h
    unfold nodeAt at h ⊢
    split at h
    · rename_i hc
      rw [if_pos hc, read_text h]
      obtain ⟨h12, hin⟩ := hc
      simp only [inB, Bool.and_eq_true, decide_eq_true_eq] at hin
      have h4 : k.toNat < l.length := by omega
      refine ⟨hin.1, by omega, h4, ?_⟩
      rw [List.getD_eq_getElem?_getD, List.getElem?_map, List.getElem?_eq_getElem h4, List.getD_eq_getElem?_getD, List.getElem?_eq_getElem h4]
      rfl
    · cases h
  generalize nodeAt l k = na at rAi rAs hsm hthere
  obtain ⟨n, there⟩ := na
  simp only at rAi rAs hsm hthere
  have rT := runs_17 n hsm.1 hsm.2.1 hsm.2.2
  have bn : List.take n.names.length (n.names.map sRow) = n.names.map sRow := List.take_of_length_le (by simp)
  have bk : List.take n.kids.length (n.kids.map nRow) = n.kids.map nRow := List.take_of_length_le (by simp)
  (refine vw_go rfl ?_; simp only [go_sem, setCells, setIn])
  (refine ⟨_, _, call_rx [0] Try.func14 (rN) rfl rfl rfl rfl rfl rfl rfl (by simp [lendAll, lendC, seek, fresh, nav, rcells, RT.cells, VV.cells, tabE_cons, tabS_cons, ev, take_map_len, sRow_r1, sRow_comp, sRow_clean, nRow_r1, nRow_comp, nRow_clean, bRow_r1, bRow_clean]) rfl (by simp [rcells, RT.cells, CT.clean, T.clean, sRow_r1, sRow_comp, sRow_clean, nRow_r1, nRow_comp, nRow_clean, bRow_r1, bRow_clean]) rfl rfl, ?_⟩)
  simp only [runH, runX, bl, go_sem, setCells, setIn]
  (refine vw_go rfl ?_; simp only [bl, go_sem, setCells, setIn])
  (refine ⟨_, _, call_rx [0, 0] Try.func15 (rAi) rfl rfl rfl rfl rfl rfl rfl (by simp [lendAll, lendC, seek, fresh, nav, rcells, RT.cells, VV.cells, tabE_cons, tabS_cons, ev, take_map_len, sRow_r1, sRow_comp, sRow_clean, nRow_r1, nRow_comp, nRow_clean, bRow_r1, bRow_clean, bl]) rfl (by simp [rcells, RT.cells, CT.clean, T.clean, sRow_r1, sRow_comp, sRow_clean, nRow_r1, nRow_comp, nRow_clean, bRow_r1, bRow_clean, bl]) rfl rfl, ?_⟩)
  simp only [runH, runX, bl, bn, bk, go_sem, setCells, setIn]
  (refine vw_go rfl ?_; simp only [bl, go_sem, setCells, setIn])
  (refine ⟨_, _, call_rx [0, 0] Try.func16 (rAs) rfl rfl rfl rfl rfl rfl rfl (by simp [lendAll, lendC, seek, fresh, nav, rcells, RT.cells, VV.cells, tabE_cons, tabS_cons, ev, take_map_len, sRow_r1, sRow_comp, sRow_clean, nRow_r1, nRow_comp, nRow_clean, bRow_r1, bRow_clean, bl]) rfl (by simp [rcells, RT.cells, CT.clean, T.clean, sRow_r1, sRow_comp, sRow_clean, nRow_r1, nRow_comp, nRow_clean, bRow_r1, bRow_clean, bl]) rfl rfl, ?_⟩)
  simp only [runH, runX, bl, bn, bk, go_sem, setCells, setIn]
  refine vw_join (α := Unit) (fun z => ⟨tabE [(3, .al 1 [] 0 1 0 l.length), (4, .c (.bool (volOk l)))], tabS [(1, some ⟨false, 1, l.map sRow, []⟩)], 2⟩) (fun z => True) ?_ ?_
  · cases there
    · (refine vw_drawA mixed rfl rfl ?_; intro A hAA)
      have k3 : (A[3]?).bind (·.dst) = some 74 := by subst hAA; rfl
      have k5 : (A[5]?).bind (·.dst) = some 76 := by subst hAA; rfl
      simp (maxSteps := 1000000) only [k3, k5, beq_self_eq_true, go_sem, setCells, setIn, runW_step]
      (refine ⟨by subst hAA; exact allOk_pre [[], [], [0, 1], [0, 1, 2], [0, 1, 2, 3], [0, 1, 2, 3, 4], [0, 1, 2, 3, 4, 5], [0, 1, 2, 3, 4, 5, 6], [0, 1, 2, 3, 4, 5], [0, 1, 2, 3, 4, 5], [0, 1, 2, 3, 4, 5, 8, 9], [0, 1, 2, 3, 4, 5, 8, 9, 10], [0, 1, 2, 3, 4, 5, 6, 7, 8, 9, 10, 11], [0, 1, 2, 3, 4, 5, 6, 7, 8, 9, 10, 11, 12], [0, 1, 2, 3, 4, 5, 6, 7, 8, 9, 10, 11, 12, 13]] (by kernel_rfl) (Nat.le_of_ble_eq_true (by kernel_rfl)) (by kernel_rfl), ?_⟩)
      (refine vw_cond (t := false) rfl (fun h => nomatch h) (fun _ => ?_))
      refine vw_skip (n_then ⟨(), ?_⟩)
      (refine norm_to [(1, 1)] rfl ?_ ?_ <;> simp only [go_sem])
    · obtain ⟨t1, t2, t3, t4⟩ := hthere rfl
      (refine vw_drawA mixed rfl rfl ?_; intro A hAA)
      have k3 : (A[3]?).bind (·.dst) = some 74 := by subst hAA; rfl
      have k5 : (A[5]?).bind (·.dst) = some 76 := by subst hAA; rfl
      simp (maxSteps := 1000000) only [k3, k5, beq_self_eq_true, bn, bk, List.drop_length, go_sem, setCells, setIn, runW_step]
      (refine ⟨_, _, _, call_rx_at [0] [71682] Try.func17 (rT) rfl rfl rfl rfl rfl rfl rfl (fun st1 hst1 => by (try simp only [List.mem_cons, List.not_mem_nil, or_false, false_or, forall_eq_or_imp, forall_eq] at hst1); simp [lendAll, lendC, seek, fresh, nav, rcells, RT.cells, VV.cells, tabE_cons, tabS_cons, ev, take_map_len, hst1, sRow_r1, sRow_comp, sRow_clean, nRow_r1, nRow_comp, nRow_clean, bRow_r1, bRow_clean, bn, bk]) rfl (by simp [rcells, RT.cells, CT.clean, T.clean, sRow_r1, sRow_comp, sRow_clean, nRow_r1, nRow_comp, nRow_clean, bRow_r1, bRow_clean, bn, bk]) rfl rfl, ?_⟩)
      (unfold runX; simp (maxSteps := 1000000) only [k3, k5, beq_self_eq_true, bn, bk, bl, t1, t2, t3, t4, List.drop_length, go_sem, setCells, setIn, runW_step])
      (refine ⟨by subst hAA; exact allOk_pre [[], [], [0, 1], [0, 1, 2], [0, 1, 2, 3], [0, 1, 2, 3, 4], [0, 1, 2, 3, 4, 5], [0, 1, 2, 3, 4, 5, 6], [0, 1, 2, 3, 4, 5], [0, 1, 2, 3, 4, 5], [0, 1, 2, 3, 4, 5, 8, 9], [0, 1, 2, 3, 4, 5, 8, 9, 10], [0, 1, 2, 3, 4, 5, 6, 7, 8, 9, 10, 11], [0, 1, 2, 3, 4, 5, 6, 7, 8, 9, 10, 11, 12], [0, 1, 2, 3, 4, 5, 6, 7, 8, 9, 10, 11, 12, 13]] (by kernel_rfl) (Nat.le_of_ble_eq_true (by kernel_rfl)) (by kernel_rfl), ?_⟩)
      (refine vw_cond (t := false) rfl (fun h => nomatch h) (fun _ => ?_))
      refine vw_skip (n_then ⟨(), ?_⟩)
      (refine norm_to [(1, 1)] rfl ?_ ?_ <;> simp only [go_sem])
  intro z _
  have rVN := runs_18
  have rVO := runs_6 volNew (by decide) (fun s hs => Nat.le_trans (volNew_fit.2 s hs) (by decide))
  rw [volNew_ok] at rVO
  have b0 : List.take volNew.length (volNew.map sRow) = volNew.map sRow := List.take_of_length_le (by simp)
  generalize volNew = v0 at rVN rVO b0
  have bi : List.take its.length (its.map iRow) = its.map iRow := List.take_of_length_le (by simp)
  have w1 : IntKind.wrap .i64 ((u : Int) - 1) = (u : Int) - 1 := wrap_i64 (by omega) (by omega)
  (refine vw_go rfl ?_; simp only [go_sem, setCells, setIn])
  (refine ⟨_, _, call_rx [] Try.func18 (rVN) rfl rfl rfl rfl rfl rfl rfl (by simp [lendAll, lendC, seek, fresh, nav, rcells, RT.cells, VV.cells, tabE_cons, tabS_cons, ev, take_map_len, sRow_r1, sRow_comp, sRow_clean, nRow_r1, nRow_comp, nRow_clean, bRow_r1, bRow_clean]) rfl (by simp [rcells, RT.cells, CT.clean, T.clean, sRow_r1, sRow_comp, sRow_clean, nRow_r1, nRow_comp, nRow_clean, bRow_r1, bRow_clean]) rfl rfl, ?_⟩)
  (unfold runH; simp (maxSteps := 1000000) only [b0, bl, go_sem, setCells, setIn])
  (refine ⟨_, _, call_rx [0] Try.func6 (rVO) rfl rfl rfl rfl rfl rfl rfl (by simp [lendAll, lendC, seek, fresh, nav, rcells, RT.cells, VV.cells, tabE_cons, tabS_cons, ev, take_map_len, sRow_r1, sRow_comp, sRow_clean, nRow_r1, nRow_comp, nRow_clean, bRow_r1, bRow_clean, b0]) rfl (by simp [rcells, RT.cells, CT.clean, T.clean, sRow_r1, sRow_comp, sRow_clean, nRow_r1, nRow_comp, nRow_clean, bRow_r1, bRow_clean, b0]) rfl rfl, ?_⟩)
  cases hv : volOk l
  · (unfold runH; simp (maxSteps := 1000000) only [b0, bl, hv, go_sem, setCells, setIn])
    exact vw_ret (e_ret (ret_by rfl rfl (by simp [RB]) rfl (by simp only [takeCs, takeC, go_sem, setCells, setIn])))
  · have hc := hcount hv
    have hc2 : (its.length : Int) = (u : Int) - 1 := by omega
    (unfold runH; simp (maxSteps := 1000000) only [b0, bl, hv, go_sem, setCells, setIn])
    (refine ⟨_, _, call_rx [0] Try.func19 (rI) rfl rfl rfl rfl rfl rfl rfl (by simp [lendAll, lendC, seek, fresh, nav, rcells, RT.cells, VV.cells, tabE_cons, tabS_cons, ev, take_map_len, sRow_r1, sRow_comp, sRow_clean, nRow_r1, nRow_comp, nRow_clean, bRow_r1, bRow_clean, bl, iRow_clean]) rfl (by simp [rcells, RT.cells, CT.clean, T.clean, sRow_r1, sRow_comp, sRow_clean, nRow_r1, nRow_comp, nRow_clean, bRow_r1, bRow_clean, bl, iRow_clean]) rfl rfl, ?_⟩)
    (unfold runH; simp (maxSteps := 1000000) only [b0, bl, bi, go_sem, setCells, setIn])
    (refine ⟨_, _, call_rx [0] Try.func11 (rUi) rfl rfl rfl rfl rfl rfl rfl (by simp [lendAll, lendC, seek, fresh, nav, rcells, RT.cells, VV.cells, tabE_cons, tabS_cons, ev, take_map_len, sRow_r1, sRow_comp, sRow_clean, nRow_r1, nRow_comp, nRow_clean, bRow_r1, bRow_clean, bl]) rfl (by simp [rcells, RT.cells, CT.clean, T.clean, sRow_r1, sRow_comp, sRow_clean, nRow_r1, nRow_comp, nRow_clean, bRow_r1, bRow_clean, bl]) rfl rfl, ?_⟩)
    simp only [runH, runX, b0, bl, bi, w1, hc2, go_sem, setCells, setIn]
    exact vw_ret (e_ret (ret_by rfl rfl (by simp [RB]) rfl (by simp only [takeCs, takeC, go_sem, setCells, setIn])))
end Go.Proofs.Ythaobdlenbbhoaa
