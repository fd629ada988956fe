/- What is asked of a volume, of the reference: Ask and Change whole. Volumes: how many nodes are used, a free one, a new volume; of both. Draws of volumes. -/
import Derived.Test.YtdikikcingempaaDoorPFAskS4
import Derived.Test.YtdikikcingempaaDoorPFAskS
import Derived.Test.YtdikikcingempaaDoorPFNodeR
import Derived.Test.YtdikikcingempaaDoorPFDraw
namespace Go.Proofs.YtdikikcingempaaDoor
open Go.VM Go
set_option maxRecDepth 100000
set_option linter.unusedSimpArgs false
set_option linter.unusedVariables false
attribute [local congr] vw_congr runV_congr runH_congr runW_congr runX_congr


/-! ### depth -/
theorem goKids_mono {g h : Nat → List Bool → Bool × List Bool} (H : ∀ k m, (g k m).1 = true → h k m = g k m) : ∀ (ys : List Int) (m : List Bool), (goKids g ys m).1 = true → goKids h ys m = goKids g ys m
  | [], m, _ => rfl
  | y :: ys, m, e => by
    rw [goKids] at e ⊢
    rw [goKids]
    split at e
    · rename_i c
      rw [H _ _ c, if_pos c, if_pos c, goKids_mono H ys _ e]
    · cases e
theorem goI_mono (l : List ByteArray) : ∀ (f k : Nat) (m : List Bool), (goI l f k m).1 = true → goI l (f + 1) k m = goI l f k m
  | 0, k, m, h => nomatch h
  | f + 1, k, m, h => by
    rw [goI] at h ⊢
    rw [goI]
    split at h
    · rename_i c
      rw [if_pos c, if_pos c]
      exact goKids_mono (fun k m => goI_mono l f k m) _ _ h
    · cases h
theorem deep_mono {l : List ByteArray} {f k : Nat} (h : deepOk l f k) : deepOk l (f + 1) k := by
  obtain ⟨m, h⟩ := h
  exact ⟨m, by rw [goI_mono l f k m h]; exact h⟩
theorem walk_deep {l : List ByteArray} {f : Nat} : ∀ (st : List ByteArray) (k : Int), deepOk l f k.toNat → 0 ≤ walkG l st k → deepOk l f (walkG l st k).toNat
  | [], k, h, _ => h
  | s :: st, k, h, h0 => by
    unfold walkG at h0 ⊢
    split at h0
    · exact absurd h0 (by decide)
    · rename_i c
      rw [if_neg c]
      rcases kidF_in (nodeRead (l.getD k.toNat ⟨#[]⟩)).1 s with h2 | h2
      · rw [h2] at c; exact absurd (by decide) c
      · obtain ⟨g, rfl, _, hk⟩ := deep_step h
        exact walk_deep st _ (deep_mono (hk _ h2)) h0

/-! ### Ask -/
def askF (l : List ByteArray) (o : OpV) : Told3 :=
  if volOk l = false ∨ opOk o = false then none3 1
  else if o.kind = 1 ∨ o.kind = 2 then newF l o
  else if walkG l (namesZ o.path) 0 < 0 then none3 2
  else if o.kind = 5 then dropF l o (walkG l (namesZ o.path) 0) (kn l (walkG l (namesZ o.path) 0))
  else if o.kind = 6 then moveF l o (walkG l (namesZ o.path) 0).toNat
  else if ¬ (kn l (walkG l (namesZ o.path) 0)).dir = decide (o.kind = 7) then none3 4
  else if o.kind = 3 then (0, ⟨#[]⟩, [putF (walkG l (namesZ o.path) 0) ⟨false, [], [], o.data⟩])
  else if o.kind = 4 then (0, (kn l (walkG l (namesZ o.path) 0)).data, [])
  else (0, namesG l (kn l (walkG l (namesZ o.path) 0)).names (kn l (walkG l (namesZ o.path) 0)).kids false ⟨#[]⟩, [])

set_option maxHeartbeats 2000000 in
theorem runs_73 (l : List ByteArray) (hl : l.length < 2 ^ 60) (hsz : ∀ s ∈ l, s.size ≤ 2 ^ 20) (o : OpV) (hp : o.path.size ≤ 2 ^ 20) (ht : o.to.size ≤ 2 ^ 20) (R : Told3) (hR : R = askF l o) :
    Runs Tryd.prog 73 [.one (.v (.list false 1 (l.map sRow))), .agg [.v (.int .i64 o.kind), .v (.str o.path), .v (.str o.to), .v (.str o.data)]] [.one (.v (.int .i64 R.1)), .one (.v (.str R.2.1)), .one (.v (.list true 2 (R.2.2.map putRow)))] [] := by
  refine runs_tab (tab := [(0, .c (.list false 1 (l.map sRow))), (1, .agg [.c (.int .i64 o.kind), .c (.str o.path), .c (.str o.to), .c (.str o.data)])]) (rts := []) (n := 130) (k := 5) Tryd.func73 rfl rfl (by simp) rfl (fun t => ?_) rfl ?_
  · rcases t with _ | _ | t <;> rfl
  unfold askF at hR
  have rV := runs_21 l hl hsz
  have rO := runs_83 o hp ht
  (refine vw_go rfl ?_; simp only [go_sem, setCells, setIn])
  refine vw_seq ?_
  (refine vw_go rfl ?_; simp only [go_sem, setCells, setIn])
  (refine ⟨_, _, call_rx [0] Tryd.func21 (rV) rfl rfl rfl rfl rfl rfl rfl (by simp [lendAll, lendC, seek, fresh, nav, rcells, RT.cells, VV.cells, tabE_cons, tabS_cons, ev, take_map_len, sRow_r1, sRow_comp, sRow_clean, nRow_r1, nRow_comp, nRow_clean, putRow_clean]) rfl (by simp [rcells, RT.cells, CT.clean, T.clean, sRow_r1, sRow_comp, sRow_clean, nRow_r1, nRow_comp, nRow_clean, putRow_clean]) rfl rfl, ?_⟩)
  cases hv : volOk l
  · rw [hv] at rV
    rw [if_pos (.inl hv)] at hR
    unfold none3 at hR
    subst hR
    simp only [runH, runX, hv, go_sem, setCells, setIn]
    (refine vw_cond (t := true) rfl (fun _ => ?_) (fun h => nomatch h))
    (refine vw_go rfl ?_; simp only [go_sem, setCells, setIn])
    (refine ⟨_, _, call_rx [0] Tryd.func84 (runs_84 1) rfl rfl rfl rfl rfl rfl rfl (by simp [lendAll, lendC, seek, fresh, nav, rcells, RT.cells, VV.cells, tabE_cons, tabS_cons, ev, take_map_len, lit, cleanRs]) rfl (by simp [rcells, RT.cells, CT.clean, T.clean, lit, cleanRs]) rfl rfl, ?_⟩)
    simp only [runH, runX, go_sem, setCells, setIn]
    exact vw_ret (r_then (e_ret (ret_by rfl rfl (by simp [RB]) rfl (by simp only [takeCs, takeC, go_sem, setCells, setIn]))))
  obtain ⟨l12, hdeep⟩ := volOk_deep hv
  simp only [runH, runX, hv, go_sem, setCells, setIn]
  (refine ⟨_, _, call_rx [0] Tryd.func83 (rO) rfl rfl rfl rfl rfl rfl rfl (by simp [lendAll, lendC, seek, fresh, nav, rcells, RT.cells, VV.cells, tabE_cons, tabS_cons, ev, take_map_len, sRow_r1, sRow_comp, sRow_clean, nRow_r1, nRow_comp, nRow_clean, putRow_clean]) rfl (by simp [rcells, RT.cells, CT.clean, T.clean, sRow_r1, sRow_comp, sRow_clean, nRow_r1, nRow_comp, nRow_clean, putRow_clean]) rfl rfl, ?_⟩)
  cases ho : opOk o
  · rw [if_pos (.inr ho)] at hR
    unfold none3 at hR
    subst hR
    simp only [runH, runX, ho, go_sem, setCells, setIn]
    (refine vw_cond (t := true) rfl (fun _ => ?_) (fun h => nomatch h))
    (refine vw_go rfl ?_; simp only [go_sem, setCells, setIn])
    (refine ⟨_, _, call_rx [0] Tryd.func84 (runs_84 1) rfl rfl rfl rfl rfl rfl rfl (by simp [lendAll, lendC, seek, fresh, nav, rcells, RT.cells, VV.cells, tabE_cons, tabS_cons, ev, take_map_len, lit, cleanRs]) rfl (by simp [rcells, RT.cells, CT.clean, T.clean, lit, cleanRs]) rfl rfl, ?_⟩)
    simp only [runH, runX, go_sem, setCells, setIn]
    exact vw_ret (r_then (e_ret (ret_by rfl rfl (by simp [RB]) rfl (by simp only [takeCs, takeC, go_sem, setCells, setIn]))))
  rw [if_neg (by rw [hv, ho]; rintro (h | h) <;> cases h)] at hR
  simp only [runH, runX, ho, go_sem, setCells, setIn]
  (refine vw_cond (t := false) rfl (fun h => nomatch h) (fun _ => ?_))
  refine vw_skip (n_then ?_)
  refine vw_seq ?_
  have rN := runs_85 l l12 hsz o hp _ rfl
  have rW := runs_35 l l12 hsz o.path hp
  have rD := fun a n => runs_86 l l12 hsz o hp a n _ rfl
  have hdw := walk_deep (namesZ o.path) 0 hdeep
  have hwi := walkG_in l (namesZ o.path) 0 (by decide) (by decide)
  generalize newF l o = nf at rN hR
  generalize walkG l (namesZ o.path) 0 = w at rW hdw hwi hR
  by_cases k1 : o.kind = 1
  · rw [if_pos (.inl k1)] at hR
    subst hR
    (refine vw_go rfl ?_; simp only [k1, go_sem, setCells, setIn])
    (refine vw_cond (t := true) rfl (fun _ => ?_) (fun h => nomatch h))
    (refine vw_go rfl ?_; simp only [go_sem, setCells, setIn])
    rw [← k1]
    (refine ⟨_, _, call_rx [0, 0] Tryd.func85 (rN) rfl rfl rfl rfl rfl rfl rfl (by simp [lendAll, lendC, seek, fresh, nav, rcells, RT.cells, VV.cells, tabE_cons, tabS_cons, ev, take_map_len, sRow_r1, sRow_comp, sRow_clean, nRow_r1, nRow_comp, nRow_clean, putRow_clean]) rfl (by simp [rcells, RT.cells, CT.clean, T.clean, sRow_r1, sRow_comp, sRow_clean, nRow_r1, nRow_comp, nRow_clean, putRow_clean]) rfl rfl, ?_⟩)
    simp only [runH, runX, go_sem, setCells, setIn]
    (refine vw_go rfl ?_; simp only [go_sem, setCells, setIn])
    exact vw_ret (r_then (e_ret (ret_by rfl rfl (by simp [RB]) rfl (by simp only [takeCs, takeC, go_sem, setCells, setIn]))))
  by_cases k2 : o.kind = 2
  · rw [if_pos (.inr k2)] at hR
    subst hR
    (refine vw_go rfl ?_; simp only [k2, go_sem, setCells, setIn])
    (refine vw_cond (t := true) rfl (fun _ => ?_) (fun h => nomatch h))
    (refine vw_go rfl ?_; simp only [go_sem, setCells, setIn])
    rw [← k2]
    (refine ⟨_, _, call_rx [0, 0] Tryd.func85 (rN) rfl rfl rfl rfl rfl rfl rfl (by simp [lendAll, lendC, seek, fresh, nav, rcells, RT.cells, VV.cells, tabE_cons, tabS_cons, ev, take_map_len, sRow_r1, sRow_comp, sRow_clean, nRow_r1, nRow_comp, nRow_clean, putRow_clean]) rfl (by simp [rcells, RT.cells, CT.clean, T.clean, sRow_r1, sRow_comp, sRow_clean, nRow_r1, nRow_comp, nRow_clean, putRow_clean]) rfl rfl, ?_⟩)
    simp only [runH, runX, go_sem, setCells, setIn]
    (refine vw_go rfl ?_; simp only [go_sem, setCells, setIn])
    exact vw_ret (r_then (e_ret (ret_by rfl rfl (by simp [RB]) rfl (by simp only [takeCs, takeC, go_sem, setCells, setIn]))))
  rw [if_neg (by rintro (h | h); exact k1 h; exact k2 h)] at hR
  (refine vw_go rfl ?_; simp only [k1, k2, go_sem, setCells, setIn])
  (refine vw_cond (t := false) rfl (fun h => nomatch h) (fun _ => ?_))
  refine vw_skip (n_then ?_)
  (refine vw_go rfl ?_; simp only [go_sem, setCells, setIn])
  (refine ⟨_, _, call_rx [0, 0] Tryd.func35 (rW) rfl rfl rfl rfl rfl rfl rfl (by simp [lendAll, lendC, seek, fresh, nav, rcells, RT.cells, VV.cells, tabE_cons, tabS_cons, ev, take_map_len, sRow_r1, sRow_comp, sRow_clean, nRow_r1, nRow_comp, nRow_clean, putRow_clean]) rfl (by simp [rcells, RT.cells, CT.clean, T.clean, sRow_r1, sRow_comp, sRow_clean, nRow_r1, nRow_comp, nRow_clean, putRow_clean]) rfl rfl, ?_⟩)
  simp only [runH, runX, go_sem, setCells, setIn]
  refine vw_seq ?_
  by_cases h0 : w < 0
  · rw [if_pos h0] at hR
    unfold none3 at hR
    subst hR
    (refine vw_go rfl ?_; simp only [h0, go_sem, setCells, setIn])
    (refine vw_cond (t := true) rfl (fun _ => ?_) (fun h => nomatch h))
    (refine vw_go rfl ?_; simp only [go_sem, setCells, setIn])
    (refine ⟨_, _, call_rx [0] Tryd.func84 (runs_84 2) rfl rfl rfl rfl rfl rfl rfl (by simp [lendAll, lendC, seek, fresh, nav, rcells, RT.cells, VV.cells, tabE_cons, tabS_cons, ev, take_map_len, lit, cleanRs]) rfl (by simp [rcells, RT.cells, CT.clean, T.clean, lit, cleanRs]) rfl rfl, ?_⟩)
    simp only [runH, runX, go_sem, setCells, setIn]
    exact vw_ret (r_then (e_ret (ret_by rfl rfl (by simp [RB]) rfl (by simp only [takeCs, takeC, go_sem, setCells, setIn]))))
  rw [if_neg h0] at hR
  have hdw' := hdw (by omega)
  have hw11 : w ≤ 11 := by rcases hwi with h | h <;> omega
  obtain ⟨k, rfl⟩ : ∃ k : Nat, w = (k : Int) := ⟨w.toNat, by omega⟩
  have hk12 : k < 12 := by omega
  rw [Int.toNat_natCast] at hdw' hR
  have rM := runs_87 l l12 hsz o hp ht k hk12 hdw' _ rfl
  obtain ⟨t, ht'⟩ : ∃ t, l[k]? = some t := ⟨_, List.getElem?_eq_getElem (by omega)⟩
  have rR := runs_37 t (hsz t (List.mem_of_getElem? ht')) _ rfl
  obtain ⟨a1, a2, a3, a4⟩ := nodeRead_small t
  have hkr := nodeRead_kids t
  have hlen := nodeRead_len t
  have hkn : kn l (k : Int) = (nodeRead t).1 := by unfold kn; rw [Int.toNat_natCast, getD_of ht']
  rw [hkn] at hR
  generalize nodeRead t = r at rR hR a1 a2 a3 a4 hkr hlen
  obtain ⟨n, ok⟩ := r
  simp only at rR hR a1 a2 a3 a4 hkr hlen
  have rDD := rD (k : Int) n
  have rNm := runs_89 l l12 hsz n (by omega) a1 a3 hkr
  have hfz : (⟨false, [], [], o.data⟩ : NodeV).fit := ⟨rfl, Nat.zero_le _, fun x hx => (nomatch hx), by
    have := ho; unfold opOk at this; simp only [Bool.and_eq_true, decide_eq_true_eq] at this; have := this.2.2.1; simp only; omega⟩
  have rPt := text_fit hfz (k : Int)
  simp only [List.map_nil] at rPt
  generalize dropF l o (k : Int) n = df at rDD hR
  generalize moveF l o k = mf at rM hR
  generalize namesG l n.names n.kids false ⟨#[]⟩ = nmz at rNm hR
  have k0 : (0:Int) ≤ (k : Int) := by omega
  have k3 : (k : Int) < l.length := by omega
  have k4 : k < l.length := by omega
  have bn : List.take n.names.length (n.names.map sRow) = n.names.map sRow := List.take_of_length_le (by simp)
  have bk : List.take n.kids.length (n.kids.map nRow) = n.kids.map nRow := List.take_of_length_le (by simp)
  (refine vw_go rfl ?_; simp only [h0, go_sem, setCells, setIn])
  (refine vw_cond (t := false) rfl (fun h => nomatch h) (fun _ => ?_))
  refine vw_skip (n_then ?_)
  (refine vw_go rfl ?_; simp only [k0, k3, k4, Int.toNat_natCast, getD_map_of ht', sRow, go_sem, setCells, setIn])
  (refine ⟨_, _, call_rx [0] Tryd.func37 (rR) rfl rfl rfl rfl rfl rfl rfl (by simp [lendAll, lendC, seek, fresh, nav, rcells, RT.cells, VV.cells, tabE_cons, tabS_cons, ev, take_map_len, sRow_r1, sRow_comp, sRow_clean, nRow_r1, nRow_comp, nRow_clean, putRow_clean]) rfl (by simp [rcells, RT.cells, CT.clean, T.clean, sRow_r1, sRow_comp, sRow_clean, nRow_r1, nRow_comp, nRow_clean, putRow_clean]) rfl rfl, ?_⟩)
  simp only [runH, runX, bn, bk, go_sem, setCells, setIn]
  refine vw_seq ?_
  refine vw_block ?_
  by_cases k5 : o.kind = 5
  · rw [if_pos k5] at hR
    subst hR
    (refine vw_go rfl ?_; simp only [k5, go_sem, setCells, setIn])
    (refine vw_cond (t := true) rfl (fun _ => ?_) (fun h => nomatch h))
    rw [← k5]
    (refine vw_go rfl ?_; simp only [bn, bk, List.drop_length, go_sem, setCells, setIn])
    (refine ⟨_, _, call_rx [0, 0, 0, 0] Tryd.func86 (rDD) rfl rfl rfl rfl rfl rfl rfl (by simp [lendAll, lendC, seek, fresh, nav, rcells, RT.cells, VV.cells, tabE_cons, tabS_cons, ev, take_map_len, sRow_r1, sRow_comp, sRow_clean, nRow_r1, nRow_comp, nRow_clean, putRow_clean, bn, bk]) rfl (by simp [rcells, RT.cells, CT.clean, T.clean, sRow_r1, sRow_comp, sRow_clean, nRow_r1, nRow_comp, nRow_clean, putRow_clean, bn, bk]) rfl rfl, ?_⟩)
    simp only [runH, runX, go_sem, setCells, setIn]
    (refine vw_go rfl ?_; simp only [go_sem, setCells, setIn])
    exact vw_ret (r_block (r_then (e_ret (ret_by rfl rfl (by simp [RB]) rfl (by simp only [takeCs, takeC, go_sem, setCells, setIn])))))
  rw [if_neg k5] at hR
  (refine vw_go rfl ?_; simp only [k5, go_sem, setCells, setIn])
  (refine vw_cond (t := false) rfl (fun h => nomatch h) (fun _ => ?_))
  by_cases k6 : o.kind = 6
  · rw [if_pos k6] at hR
    subst hR
    (refine vw_go rfl ?_; simp only [k6, go_sem, setCells, setIn])
    (refine vw_cond (t := true) rfl (fun _ => ?_) (fun h => nomatch h))
    rw [← k6]
    (refine vw_go rfl ?_; simp only [go_sem, setCells, setIn])
    (refine ⟨_, _, call_rx [0, 0, 0] Tryd.func87 (rM) rfl rfl rfl rfl rfl rfl rfl (by simp [lendAll, lendC, seek, fresh, nav, rcells, RT.cells, VV.cells, tabE_cons, tabS_cons, ev, take_map_len, sRow_r1, sRow_comp, sRow_clean, nRow_r1, nRow_comp, nRow_clean, putRow_clean]) rfl (by simp [rcells, RT.cells, CT.clean, T.clean, sRow_r1, sRow_comp, sRow_clean, nRow_r1, nRow_comp, nRow_clean, putRow_clean]) rfl rfl, ?_⟩)
    simp only [runH, runX, go_sem, setCells, setIn]
    (refine vw_go rfl ?_; simp only [go_sem, setCells, setIn])
    exact vw_ret (r_block (r_then (e_ret (ret_by rfl rfl (by simp [RB]) rfl (by simp only [takeCs, takeC, go_sem, setCells, setIn])))))
  rw [if_neg k6] at hR
  (refine vw_go rfl ?_; simp only [k6, go_sem, setCells, setIn])
  (refine vw_cond (t := false) rfl (fun h => nomatch h) (fun _ => ?_))
  by_cases k7 : n.dir = decide (o.kind = 7)
  case neg =>
    rw [if_pos k7] at hR
    unfold none3 at hR
    subst hR
    have k7' : (n.dir == decide (o.kind = 7)) = false := by simp [k7]
    (refine vw_go rfl ?_; simp only [k7', go_sem, setCells, setIn])
    (refine vw_cond (t := true) rfl (fun _ => ?_) (fun h => nomatch h))
    (refine vw_go rfl ?_; simp only [go_sem, setCells, setIn])
    (refine ⟨_, _, call_rx [0] Tryd.func84 (runs_84 4) rfl rfl rfl rfl rfl rfl rfl (by simp [lendAll, lendC, seek, fresh, nav, rcells, RT.cells, VV.cells, tabE_cons, tabS_cons, ev, take_map_len, lit, cleanRs]) rfl (by simp [rcells, RT.cells, CT.clean, T.clean, lit, cleanRs]) rfl rfl, ?_⟩)
    simp only [runH, runX, go_sem, setCells, setIn]
    exact vw_ret (r_block (r_then (e_ret (ret_by rfl rfl (by simp [RB]) rfl (by simp only [takeCs, takeC, go_sem, setCells, setIn])))))
  rw [if_neg (fun h => h k7)] at hR
  have k7' : (n.dir == decide (o.kind = 7)) = true := by simp [k7]
  (refine vw_go rfl ?_; simp only [k7', go_sem, setCells, setIn])
  (refine vw_cond (t := false) rfl (fun h => nomatch h) (fun _ => ?_))
  by_cases k8 : o.kind = 3
  · rw [if_pos k8] at hR
    unfold putF at hR
    subst hR
    (refine vw_go rfl ?_; simp only [k8, go_sem, setCells, setIn])
    (refine vw_cond (t := true) rfl (fun _ => ?_) (fun h => nomatch h))
    (refine vw_go rfl ?_; simp only [go_sem, setCells, setIn])
    (refine ⟨_, _, call_rx [0, 0] Tryd.func88 (rPt) rfl rfl rfl rfl rfl rfl rfl (by simp [lendAll, lendC, seek, fresh, nav, rcells, RT.cells, VV.cells, tabE_cons, tabS_cons, ev, take_map_len, sRow_r1, sRow_comp, sRow_clean, nRow_r1, nRow_comp, nRow_clean, putRow_clean, lit, cleanRs]) rfl (by simp [rcells, RT.cells, CT.clean, T.clean, sRow_r1, sRow_comp, sRow_clean, nRow_r1, nRow_comp, nRow_clean, putRow_clean, lit, cleanRs]) rfl rfl, ?_⟩)
    simp only [runH, runX, range1, List.replicate_succ, List.replicate_zero, List.flatten_cons, List.flatten_nil, List.range_zero, gt_iff_lt, go_sem, setCells, setIn]
    rw [show putRow (⟨(k : Int), nodeText ⟨false, [], [], o.data⟩⟩ : PutV) = [.int .i64 (k : Int), .str (nodeText ⟨false, [], [], o.data⟩)] from rfl]
    exact vw_ret (r_block (r_then (e_ret (ret_by rfl rfl (by simp [RB]) rfl (by simp only [takeCs, takeC, go_sem, setCells, setIn])))))
  rw [if_neg k8] at hR
  (refine vw_go rfl ?_; simp only [k8, go_sem, setCells, setIn])
  (refine vw_cond (t := false) rfl (fun h => nomatch h) (fun _ => ?_))
  by_cases k9 : o.kind = 4
  · rw [if_pos k9] at hR
    subst hR
    (refine vw_go rfl ?_; simp only [k9, go_sem, setCells, setIn])
    (refine vw_cond (t := true) rfl (fun _ => ?_) (fun h => nomatch h))
    (refine vw_draw mixed rfl rfl ?_; simp only [List.replicate_zero, List.flatten_nil, List.range_zero, go_sem, setCells, setIn])
    refine ⟨by unfold allOk; kernel_rfl, ?_⟩
    exact vw_ret (r_block (r_then (e_ret (ret_by rfl rfl (by simp [RB]) rfl (by simp only [takeCs, takeC, go_sem, setCells, setIn])))))
  rw [if_neg k9] at hR
  subst hR
  (refine vw_go rfl ?_; simp only [k9, go_sem, setCells, setIn])
  (refine vw_cond (t := false) rfl (fun h => nomatch h) (fun _ => ?_))
  refine vw_skip (n_block (n_then ?_))
  (refine vw_go rfl ?_; simp only [bn, bk, List.drop_length, go_sem, setCells, setIn])
  (refine ⟨_, _, call_rx [0, 0] Tryd.func89 (rNm) rfl rfl rfl rfl rfl rfl rfl (by simp [lendAll, lendC, seek, fresh, nav, rcells, RT.cells, VV.cells, tabE_cons, tabS_cons, ev, take_map_len, sRow_r1, sRow_comp, sRow_clean, nRow_r1, nRow_comp, nRow_clean, putRow_clean, bn, bk]) rfl (by simp [rcells, RT.cells, CT.clean, T.clean, sRow_r1, sRow_comp, sRow_clean, nRow_r1, nRow_comp, nRow_clean, putRow_clean, bn, bk]) rfl rfl, ?_⟩)
  simp only [runH, runX, List.replicate_zero, List.flatten_nil, List.range_zero, go_sem, setCells, setIn]
  exact vw_ret (e_ret (ret_by rfl rfl (by simp [RB]) rfl (by simp only [takeCs, takeC, go_sem, setCells, setIn])))

theorem sortF_len (a b : PutV) : (sortF a b).length = 2 := by unfold sortF; split <;> rfl
theorem ite_p {P : Told3 → Prop} {c : Prop} [Decidable c] {a b : Told3} (ha : P a) (hb : P b) : P (if c then a else b) := by split <;> assumption
theorem nodeText_size (n : NodeV) : (nodeText n).size ≤ 100 := by
  unfold nodeText
  split
  · rename_i h
    split
    · rename_i hd
      obtain ⟨e1, e2, e3⟩ := nodeOk_dir hd h
      have h1 := bodyTo_size e3 n.names.length (Nat.le_refl _)
      have h2 := nodeOk_few h
      omega
    · rename_i hd
      obtain ⟨e1, e2, e3⟩ := nodeOk_file (by simpa using hd) h
      rw [ByteArray.size_append]
      have : (⟨#[102]⟩ : ByteArray).size = 1 := rfl
      omega
  · exact Nat.zero_le _
/-- Few puts, and their texts are short. -/
def FewP (t : Told3) : Prop := t.2.2.length ≤ 2 ∧ ∀ p ∈ t.2.2, p.data.size ≤ 100
theorem fewP_nil (c : Int) (s : ByteArray) : FewP (c, s, []) := ⟨Nat.zero_le _, fun p hp => nomatch hp⟩
theorem fewP_one (c : Int) (s : ByteArray) (k : Int) (n : NodeV) : FewP (c, s, [putF k n]) := ⟨by simp, fun p hp => by
  rw [List.mem_singleton] at hp; rw [hp]; exact nodeText_size n⟩
theorem fewP_sort (c : Int) (s : ByteArray) {a b : PutV} (ha : a.data.size ≤ 100) (hb : b.data.size ≤ 100) : FewP (c, s, sortF a b) := ⟨by simp [sortF_len], fun p hp => by
  have hp : p ∈ sortF a b := hp
  unfold sortF at hp
  split at hp <;> · rcases List.mem_cons.1 hp with rfl | hp
                    · assumption
                    · rw [List.mem_singleton] at hp; rw [hp]; assumption⟩
theorem askF_few (l : List ByteArray) (o : OpV) : FewP (askF l o) := by
  unfold askF newF dropF moveF none3
  have h0 : ∀ k n, (putF k n).data.size ≤ 100 := fun k n => nodeText_size n
  repeat' apply ite_p
  all_goals first | exact fewP_nil _ _ | exact fewP_one _ _ _ _ | exact fewP_sort _ _ (h0 _ _) (h0 _ _) | exact fewP_sort _ _ (h0 _ _) (Nat.zero_le _)
theorem doneL_size : ∀ (ps : List PutV) (l : List ByteArray) (m : Nat), (∀ s ∈ l, s.size ≤ m) → (∀ p ∈ ps, p.data.size ≤ m) → ∀ s ∈ doneL l ps, s.size ≤ m
  | [], l, m, hl, _ => hl
  | p :: ps, l, m, hl, hp => by
    rw [doneL]
    refine doneL_size ps _ m ?_ (fun q hq => hp q (List.mem_cons_of_mem _ hq))
    split
    · intro s hs
      rcases List.mem_or_eq_of_mem_set hs with h | h
      · exact hl s h
      · rw [h]; exact hp p (List.mem_cons_self ..)
    · exact hl
set_option maxHeartbeats 1000000 in
theorem runs_63 (l : List ByteArray) (hl : l.length ≤ 2 ^ 20) (hsz : ∀ s ∈ l, s.size ≤ 2 ^ 20) (o : OpV) (hp : o.path.size ≤ 2 ^ 20) (ht : o.to.size ≤ 2 ^ 20) (R : Told3) (hR : R = askF l o) :
    Runs Tryd.prog 63 [.one (.v (.list false 1 (l.map sRow))), .agg [.v (.int .i64 o.kind), .v (.str o.path), .v (.str o.to), .v (.str o.data)]] [.one (.v (.list true 1 ((doneL l R.2.2).map sRow))), .one (.v (.int .i64 R.1)), .one (.v (.str R.2.1))] [] := by
  refine runs_tab (tab := [(0, .c (.list false 1 (l.map sRow))), (1, .agg [.c (.int .i64 o.kind), .c (.str o.path), .c (.str o.to), .c (.str o.data)])]) (rts := []) (n := 22) (k := 5) Tryd.func63 rfl rfl (by simp) rfl (fun t => ?_) rfl ?_
  · rcases t with _ | _ | t <;> rfl
  have rA := runs_73 l (by omega) hsz o hp ht R hR
  obtain ⟨c, x, ps⟩ := R
  simp only at rA
  have rD := fun h => runs_74 l ps hl h
  have hq : ps.length < 2 ^ 63 := by have := (askF_few l o).1; rw [← hR] at this; simp only at this; omega
  clear hR
  have rD := rD hq
  (refine vw_go rfl ?_; simp only [go_sem, setCells, setIn])
  (refine vw_go rfl ?_; simp only [go_sem, setCells, setIn])
  (refine ⟨_, _, call_rx [0, 0] Tryd.func73 (rA) rfl rfl rfl rfl rfl rfl rfl (by simp [lendAll, lendC, seek, fresh, nav, rcells, RT.cells, VV.cells, tabE_cons, tabS_cons, ev, take_map_len, sRow_r1, sRow_comp, sRow_clean, nRow_r1, nRow_comp, nRow_clean, putRow_clean, putRow_clean]) rfl (by simp [rcells, RT.cells, CT.clean, T.clean, sRow_r1, sRow_comp, sRow_clean, nRow_r1, nRow_comp, nRow_clean, putRow_clean, putRow_clean]) rfl rfl, ?_⟩)
  simp only [runH, runX, go_sem, setCells, setIn]
  (refine vw_go rfl ?_; simp only [go_sem, setCells, setIn])
  (refine ⟨_, _, call_rx [0, 0] Tryd.func74 (rD) rfl rfl rfl rfl rfl rfl rfl (by simp [lendAll, lendC, seek, fresh, nav, rcells, RT.cells, VV.cells, tabE_cons, tabS_cons, ev, take_map_len, sRow_r1, sRow_comp, sRow_clean, nRow_r1, nRow_comp, nRow_clean, putRow_clean, putRow_clean, putRow_r1]) rfl (by simp [rcells, RT.cells, CT.clean, T.clean, sRow_r1, sRow_comp, sRow_clean, nRow_r1, nRow_comp, nRow_clean, putRow_clean, putRow_clean, putRow_r1]) rfl rfl, ?_⟩)
  simp only [runH, runX, go_sem, setCells, setIn]
  exact vw_ret (e_ret (ret_by rfl rfl (by simp [RB]) rfl (by simp only [takeCs, takeC, go_sem, setCells, setIn])))
end Go.Proofs.YtdikikcingempaaDoor
namespace Go.Proofs.YtdikikcingempaaDoor
open Go.VM Go
set_option maxRecDepth 100000
set_option linter.unusedSimpArgs false
set_option linter.unusedVariables false
attribute [local congr] vw_congr runV_congr runH_congr runW_congr runX_congr

def volNew : List ByteArray := [⟨#[100]⟩, ⟨#[]⟩, ⟨#[]⟩, ⟨#[]⟩, ⟨#[]⟩, ⟨#[]⟩, ⟨#[]⟩, ⟨#[]⟩, ⟨#[]⟩, ⟨#[]⟩, ⟨#[]⟩, ⟨#[]⟩]
theorem set_new : ((List.replicate 12 (⟨#[]⟩ : ByteArray)).map sRow).set 0 ((((List.replicate 12 (⟨#[]⟩ : ByteArray)).map sRow).getD 0 []).set 0 (.str ⟨#[100]⟩)) = volNew.map sRow := rfl
theorem take_new : List.take 12 (volNew.map sRow) = volNew.map sRow := rfl
theorem rep_new : List.replicate 12 [T.str ⟨#[]⟩] = (List.replicate 12 (⟨#[]⟩ : ByteArray)).map sRow := rfl
theorem runs_62 : Runs Tryd.prog 62 [] [.one (.v (.list true 1 (volNew.map sRow)))] [] := by
  refine runs_tab (tab := ([] : List (Nat × VV))) (rts := []) (n := 6) (k := 0) Tryd.func62 rfl rfl (by simp) rfl (fun t => ?_) rfl ?_
  · rfl
  have g2 : (12 : Int) * (((16 : Nat) : Int) + 1) ≤ (bigRow : Int) := by simp only [bigRow]; omega
  (refine vw_go rfl ?_; simp only [go_sem, setCells, setIn])
  (refine vw_go rfl ?_; simp only [g2, rep_new, go_sem, setCells, setIn])
  (refine vw_go rfl ?_; simp only [go_sem, setCells, setIn])
  (refine vw_go rfl ?_; simp only [set_new, take_new, go_sem, setCells, setIn])
  exact vw_ret (e_ret (ret_of rfl rfl (by simp [RB]) rfl (take_whole (R := ⟨false, 1, volNew.map sRow, []⟩) rfl rfl rfl rfl)))
end Go.Proofs.YtdikikcingempaaDoor
namespace Go.Proofs.YtdikikcingempaaDoor
open Go.VM Go
set_option maxRecDepth 100000
set_option linter.unusedSimpArgs false
set_option linter.unusedVariables false
attribute [-go_sem] runW_cons
attribute [local congr] vw_congr runV_congr runH_congr runW_congr runX_congr

theorem drawOp_small (L : List UInt8) (c : Cur) : (drawOp L c).1.path.size ≤ 11 ∧ (drawOp L c).1.to.size ≤ 11 := by
  have hp : ∀ c, (drawPath L c).size ≤ 11 := by
    intro c
    have h : ∀ s ∈ pathL, s.size ≤ 11 := by decide
    exact h _ (pickV_mem (l := pathL) L c ⟨#[]⟩ (by decide))
  unfold drawOp
  split
  · exact ⟨hp _, Nat.zero_le _⟩
  · split
    · exact ⟨hp _, hp _⟩
    · exact ⟨hp _, Nat.zero_le _⟩
def stepV (L : List UInt8) (c : Cur) (l : List ByteArray) : List ByteArray := doneL l (askF l (drawOp L c).1).2.2
def changeG (L : List UInt8) : Nat → Cur → List ByteArray → List ByteArray × Cur
  | 0, c, l => (l, c)
  | n + 1, c, l => changeG L n (drawOp L c).2 (stepV L c l)
def drawRight (L : List UInt8) (c : Cur) : List ByteArray × Cur := changeG L (belV L c 22).toNat (byteC L c) volNew
def volFit (l : List ByteArray) : Prop := l.length = 12 ∧ ∀ s ∈ l, s.size ≤ 100
theorem volNew_fit : volFit volNew := ⟨rfl, by decide⟩
theorem stepV_fit {L : List UInt8} {c : Cur} {l : List ByteArray} (h : volFit l) : volFit (stepV L c l) :=
  ⟨by unfold stepV; rw [doneL_len]; exact h.1, doneL_size _ l 100 h.2 (askF_few l _).2⟩
theorem changeG_fit (L : List UInt8) : ∀ (n : Nat) (c : Cur) (l : List ByteArray), volFit l → volFit (changeG L n c l).1
  | 0, c, l, h => h
  | n + 1, c, l, h => changeG_fit L n _ _ (stepV_fit h)
theorem drawRight_fit (L : List UInt8) (c : Cur) : volFit (drawRight L c).1 := changeG_fit L _ _ _ volNew_fit

set_option maxHeartbeats 1000000 in
theorem runs_49 (v : Value) (L : List UInt8) (hL : L.length < 2 ^ 60) (c : Cur) (l : List ByteArray) (C : Cur) (hC : (l, C) = drawRight L c) :
    Runs Tryd.prog 49 [.one (.box [.held v 1 (L.map bRow), .int .i64 c.i, .int .i64 c.h])] [.one (.v (.list true 1 (l.map sRow)))] [(0, ⟨true, 3, [[.held v 1 (L.map bRow), .int .i64 C.i, .int .i64 C.h]], []⟩)] := by
  refine runs_tabB (tab := [(0, .ptr 0 [] 0 0 0)]) (rts := [(0, some ⟨true, 3, [[.held v 1 (L.map bRow), .int .i64 c.i, .int .i64 c.h]], []⟩)]) (n := 23) (k := 1) Tryd.func49 rfl rfl (by simp) rfl (fun t => ?_) rfl ?_
  · rcases t with _ | t <;> rfl
  unfold drawRight at hC
  have rV := runs_62
  have hv0 := volNew_fit
  generalize volNew = v0 at rV hC hv0
  have rB := runs_50 v L hL c 22 (by decide) (by decide)
  have hb := belV_in L c (n := 22) (by decide)
  generalize belV L c 22 = b at rB hC hb
  generalize byteC L c = c1 at rB hC
  obtain ⟨N, rfl⟩ : ∃ N : Nat, b = N := ⟨b.toNat, by omega⟩
  rw [Int.toNat_natCast] at hC
  (refine vw_go rfl ?_; simp only [go_sem, setCells, setIn])
  (refine vw_go rfl ?_; simp only [go_sem, setCells, setIn])
  (refine ⟨_, _, call_rx [] Tryd.func62 (rV) rfl rfl rfl rfl rfl rfl rfl (by simp [lendAll, lendC, seek, fresh, nav, rcells, RT.cells, VV.cells, tabE_cons, tabS_cons, ev, take_map_len, sRow_r1, sRow_comp, sRow_clean]) rfl (by simp [rcells, RT.cells, CT.clean, T.clean, sRow_r1, sRow_comp, sRow_clean]) rfl rfl, ?_⟩)
  simp only [runH, runX, go_sem, setCells, setIn]
  (refine vw_go rfl ?_; simp only [go_sem, setCells, setIn])
  (refine ⟨_, _, call_pt [0, 0] 0 Tryd.func50 (rB) rfl rfl rfl rfl rfl rfl rfl rfl (by simp [lendAll, lendC, seek, fresh, nav, rcells, RT.cells, VV.cells, tabE_cons, tabS_cons, St.put, ev, lit, take_map_len]) rfl rfl (by simp [rcells, RT.cells, CT.fine, T.fine]) (by exact ⟨.inr ⟨0, _, _, rfl, .head _, .head _⟩, trivial, trivial, trivial⟩) rfl rfl, ?_⟩)
  simp only [runH, runX, go_sem, setCells, setIn]
  refine vw_seq ?_
  (refine vw_go rfl ?_; simp only [go_sem, setCells, setIn])
  refine vw_block ?_
  refine vw_loop_tab (α := Nat × Nat × Cur × List ByteArray × List Path) (fun x => x.1) (fun x => ⟨tabE [(0, .ptr 0 [] 0 0 0), (3, .al 1 [] 0 1 0 x.2.2.2.1.length), (4, .c (.int .i64 N)), (5, .c (.int .i64 x.2.1))],
      tabS [(0, some ⟨true, 3, [[.held v 1 (L.map bRow), .int .i64 x.2.2.1.i, .int .i64 x.2.2.1.h]], x.2.2.2.2⟩), (1, some ⟨false, 1, x.2.2.2.1.map sRow, []⟩)], 2⟩)
    (fun x => x.1 + x.2.1 = N ∧ changeG L x.1 x.2.2.1 x.2.2.2.1 = (l, C) ∧ volFit x.2.2.2.1) (x := (N, 0, c1, v0, [[]])) ?round ?h0 ?hn
  case h0 => exact ⟨rfl, hC.symm, hv0⟩
  case hn =>
    (refine norm_to [(0, 0), (65537, 1)] rfl ?_ ?_ <;> simp only [go_sem])
  rintro ⟨n, i, d, w, lg⟩ ⟨hn, hg, hf⟩
  simp only at hn hg hf
  refine vw_seq ?_
  by_cases hc : (i : Int) < N
  case neg =>
    obtain rfl : n = 0 := by omega
    rw [changeG] at hg
    obtain ⟨rfl, rfl⟩ := hg
    (refine vw_go rfl ?_; simp only [hc, go_sem, setCells, setIn])
    (refine vw_cond (t := false) rfl (fun h => nomatch h) (fun _ => ?_))
    refine vw_exit (x_then (x_then (x_block (n_then ?_))))
    (refine vw_go rfl ?_; simp only [go_sem, setCells, setIn])
    have bl : List.take l.length (l.map sRow) = l.map sRow := List.take_of_length_le (by simp)
    exact vw_ret (e_ret (ret_b rfl rfl (by simp [RB]) rfl (by simp only [takeCs, takeC, bl, List.drop_length, go_sem, setCells, setIn]; rfl) (by exact ⟨⟨by simp, _, rfl, rfl, rfl, rfl⟩, trivial⟩)))
  obtain ⟨m, rfl⟩ : ∃ m, n = m + 1 := ⟨n - 1, by omega⟩
  rw [changeG] at hg
  have hf2 := stepV_fit (L := L) (c := d) hf
  have rO := runs_64 v L hL d (drawOp L d).1 (drawOp L d).2 rfl
  have hos := drawOp_small L d
  have rC := runs_63 w (by rw [hf.1]; decide) (fun s hs => Nat.le_trans (hf.2 s hs) (by decide)) (drawOp L d).1 (by omega) (by omega) _ rfl
  unfold stepV at hg hf2
  generalize drawOp L d = oc at rO hg rC hf2
  obtain ⟨o, e⟩ := oc
  simp only at rO hg rC hf2
  generalize askF w o = A at rC hg hf2
  generalize doneL w A.2.2 = u at rC hg hf2
  have bw : List.take w.length (w.map sRow) = w.map sRow := List.take_of_length_le (by simp)
  have w3 : IntKind.wrap .i64 ((i:Int) + 1) = ((i + 1 : Nat) : Int) := by rw [wrap_i64 (by omega) (by omega)]; rfl
  (refine vw_go rfl ?_; simp only [hc, go_sem, setCells, setIn])
  (refine vw_cond (t := true) rfl (fun _ => ?_) (fun h => nomatch h))
  refine vw_skip (n_then ?_)
  refine vw_seq ?_
  refine vw_block ?_
  (refine vw_last rfl ?_; simp only [go_sem, setCells, setIn])
  (refine ⟨_, _, call_pt [0] 0 Tryd.func64 (rO) rfl rfl rfl rfl rfl rfl rfl rfl (by simp [lendAll, lendC, seek, fresh, nav, rcells, RT.cells, VV.cells, tabE_cons, tabS_cons, St.put, ev, lit, take_map_len]) rfl rfl (by simp [rcells, RT.cells, CT.fine, T.fine]) (by exact ⟨.inr ⟨0, _, _, rfl, .head _, .head _⟩, trivial, trivial, trivial⟩) rfl rfl, ?_⟩)
  simp only [runH, runX, bw, go_sem, setCells, setIn]
  (refine ⟨_, _, call_rx [0, 0] Tryd.func63 (rC) rfl rfl rfl rfl rfl rfl rfl (by simp [lendAll, lendC, seek, fresh, nav, rcells, RT.cells, VV.cells, tabE_cons, tabS_cons, ev, take_map_len, sRow_r1, sRow_comp, sRow_clean, bw]) rfl (by simp [rcells, RT.cells, CT.clean, T.clean, sRow_r1, sRow_comp, sRow_clean, bw]) rfl rfl, ?_⟩)
  simp only [runH, runX, go_sem, setCells, setIn]
  refine (n_block (n_then ?_))
  (refine vw_last rfl ?_; simp only [w3, go_sem, setCells, setIn])
  refine (n_then ?_)
  refine ⟨(m, i + 1, e, u, lg ++ [[]]), by simp only; omega, ⟨by simp only; omega, hg, hf2⟩, ?_⟩
  (refine norm_to [(0, 0), (68610, 1)] rfl ?_ ?_ <;> simp only [go_sem])

def pickL : List ByteArray := [⟨#[]⟩, ⟨#[120]⟩, ⟨#[100, 97, 61, 49]⟩, ⟨#[102]⟩, ⟨#[100, 97, 61, 48]⟩]
def drawV (L : List UInt8) (c : Cur) : List ByteArray × Cur :=
  if belV L (drawRight L c).2 12 = 0 then ((drawRight L c).1.set (belV L (byteC L (drawRight L c).2) 12).toNat (pickV L (byteC L (byteC L (drawRight L c).2)) pickL ⟨#[]⟩), byteC L (byteC L (byteC L (drawRight L c).2)))
  else if belV L (drawRight L c).2 12 = 1 then ((drawRight L c).1.drop 1, byteC L (drawRight L c).2)
  else if belV L (drawRight L c).2 12 = 2 then ((drawRight L c).1 ++ [⟨#[]⟩], byteC L (drawRight L c).2)
  else ((drawRight L c).1, byteC L (drawRight L c).2)
theorem drawV_fit (L : List UInt8) (c : Cur) : (drawV L c).1.length ≤ 13 ∧ ∀ s ∈ (drawV L c).1, s.size ≤ 100 := by
  obtain ⟨h1, h2⟩ := drawRight_fit L c
  unfold drawV
  split
  · refine ⟨by simp only [List.length_set]; omega, fun s hs => ?_⟩
    rcases List.mem_or_eq_of_mem_set hs with h | h
    · exact h2 s h
    · have h3 : ∀ s ∈ pickL, s.size ≤ 100 := by decide
      rw [h]; exact h3 _ (pickV_mem (l := pickL) L _ ⟨#[]⟩ (by decide))
  · split
    · exact ⟨by simp only [List.length_drop]; omega, fun s hs => h2 s (List.mem_of_mem_drop hs)⟩
    · split
      · refine ⟨by simp only [List.length_append, List.length_cons, List.length_nil]; omega, fun s hs => ?_⟩
        rcases List.mem_append.1 hs with h | h
        · exact h2 s h
        · rw [List.mem_singleton] at h; rw [h]; exact Nat.zero_le _
      · exact ⟨by show (drawRight L c).1.length ≤ 13; omega, h2⟩

set_option maxHeartbeats 1000000 in
theorem runs_32 (v : Value) (L : List UInt8) (hL : L.length < 2 ^ 60) (c : Cur) (l : List ByteArray) (C : Cur) (hC : (l, C) = drawV L c) :
    Runs Tryd.prog 32 [.one (.box [.held v 1 (L.map bRow), .int .i64 c.i, .int .i64 c.h])] [.one (.v (.list true 1 (l.map sRow)))] [(0, ⟨true, 3, [[.held v 1 (L.map bRow), .int .i64 C.i, .int .i64 C.h]], []⟩)] := by
  refine runs_tabB (tab := [(0, .ptr 0 [] 0 0 0)]) (rts := [(0, some ⟨true, 3, [[.held v 1 (L.map bRow), .int .i64 c.i, .int .i64 c.h]], []⟩)]) (n := 27) (k := 1) Tryd.func32 rfl rfl (by simp) rfl (fun t => ?_) rfl ?_
  · rcases t with _ | t <;> rfl
  unfold drawV at hC
  have rR := runs_49 v L hL c (drawRight L c).1 (drawRight L c).2 rfl
  have hf := drawRight_fit L c
  generalize drawRight L c = r at rR hf hC
  obtain ⟨w, d⟩ := r
  simp only at rR hf hC
  have rB := runs_50 v L hL d 12 (by decide) (by decide)
  have hb := belV_in L d (n := 12) (by decide)
  generalize belV L d 12 = b at rB hC hb
  generalize byteC L d = e at rB hC
  have bw : List.take w.length (w.map sRow) = w.map sRow := List.take_of_length_le (by simp)
  (refine vw_go rfl ?_; simp only [go_sem, setCells, setIn])
  (refine vw_go rfl ?_; simp only [go_sem, setCells, setIn])
  (refine ⟨_, _, call_pt [0] 0 Tryd.func49 (rR) rfl rfl rfl rfl rfl rfl rfl rfl (by simp [lendAll, lendC, seek, fresh, nav, rcells, RT.cells, VV.cells, tabE_cons, tabS_cons, St.put, ev, lit, take_map_len, sRow_r1, sRow_comp, sRow_clean, sRow_fine]) rfl rfl (by simp [rcells, RT.cells, CT.fine, T.fine, sRow_r1, sRow_comp, sRow_clean, sRow_fine]) (by exact ⟨.inr ⟨0, _, _, rfl, .head _, .head _⟩, trivial, trivial, trivial⟩) rfl rfl, ?_⟩)
  simp only [runH, runX, bw, go_sem, setCells, setIn]
  refine vw_seq ?_
  (refine vw_go rfl ?_; simp only [go_sem, setCells, setIn])
  (refine ⟨_, _, call_pt [0, 0] 0 Tryd.func50 (rB) rfl rfl rfl rfl rfl rfl rfl rfl (by simp [lendAll, lendC, seek, fresh, nav, rcells, RT.cells, VV.cells, tabE_cons, tabS_cons, St.put, ev, lit, take_map_len]) rfl rfl (by simp [rcells, RT.cells, CT.fine, T.fine]) (by exact ⟨.inr ⟨0, _, _, rfl, .head _, .head _⟩, trivial, trivial, trivial⟩) rfl rfl, ?_⟩)
  simp only [runH, runX, bw, go_sem, setCells, setIn]
  refine vw_block ?_
  by_cases h0 : b = 0
  · rw [if_pos h0] at hC
    have rB2 := runs_50 v L hL e 12 (by decide) (by decide)
    have hb2 := belV_in L e (n := 12) (by decide)
    generalize belV L e 12 = b2 at rB2 hC hb2
    generalize byteC L e = e2 at rB2 hC
    have rP := runs_44 v L hL e2 pickL (by decide) (by decide)
    generalize pickV L e2 pickL ⟨#[]⟩ = x at rP hC
    generalize byteC L e2 = e3 at rP hC
    obtain ⟨K, rfl⟩ : ∃ K : Nat, b2 = K := ⟨b2.toNat, by omega⟩
    rw [Int.toNat_natCast] at hC
    obtain ⟨rfl, rfl⟩ := hC
    have k0 : (0:Int) ≤ (K : Int) := by omega
    have k1 : (K : Int) < w.length := by rw [hf.1]; omega
    have k2 : K < w.length := by omega
    have q2 : (w.map sRow).getD K [] = [.str (w[K])] := by
      rw [List.getD_eq_getElem?_getD, List.getElem?_map, List.getElem?_eq_getElem k2]; rfl
    have q3 : (w.map sRow).set K [.str x] = (w.set K x).map sRow := by
      rw [List.map_set]; rfl
    have bs : List.take w.length ((w.set K x).map sRow) = (w.set K x).map sRow := List.take_of_length_le (by simp)
    have ls : w.length ≤ (w.set K x).length := by simp
    subst h0
    (refine vw_go rfl ?_; simp only [go_sem, setCells, setIn])
    (refine vw_cond (t := true) rfl (fun _ => ?_) (fun h => nomatch h))
    (refine vw_last rfl ?_; simp only [range1, List.replicate_succ, List.replicate_zero, List.flatten_cons, List.flatten_nil, List.range_zero, gt_iff_lt, go_sem, setCells, setIn])
    (refine ⟨_, _, call_pt [0, 0] 0 Tryd.func50 (rB2) rfl rfl rfl rfl rfl rfl rfl rfl (by simp [lendAll, lendC, seek, fresh, nav, rcells, RT.cells, VV.cells, tabE_cons, tabS_cons, St.put, ev, lit, take_map_len]) rfl rfl (by simp [rcells, RT.cells, CT.fine, T.fine]) (by exact ⟨.inr ⟨0, _, _, rfl, .head _, .head _⟩, trivial, trivial, trivial⟩) rfl rfl, ?_⟩)
    simp only [runH, runX, bw, range1, List.replicate_succ, List.replicate_zero, List.flatten_cons, List.flatten_nil, List.range_zero, gt_iff_lt, go_sem, setCells, setIn]
    (refine ⟨_, _, call_pt [0, 0] 0 Tryd.func44 (rP) rfl rfl rfl rfl rfl rfl rfl rfl (by simp [lendAll, lendC, seek, fresh, nav, rcells, RT.cells, VV.cells, tabE_cons, tabS_cons, St.put, ev, lit, take_map_len, sRow, pickL]) rfl rfl (by simp [rcells, RT.cells, CT.fine, T.fine, sRow, pickL]) (by exact ⟨.inr ⟨0, _, _, rfl, .head _, .head _⟩, trivial, trivial, trivial⟩) rfl rfl, ?_⟩)
    simp only [runH, runX, bw, k0, k1, k2, q2, q3, Int.toNat_natCast, go_sem, setCells, setIn]
    refine (n_block (n_then ?_))
    (refine vw_go rfl ?_; simp only [go_sem, setCells, setIn])
    exact vw_ret (e_ret (ret_b rfl rfl (by simp [RB]) rfl (by simp only [takeCs, takeC, bs, ls, List.drop_length, go_sem, setCells, setIn]; rfl) (by exact ⟨⟨by simp, _, rfl, rfl, rfl, rfl⟩, trivial⟩)))
  rw [if_neg h0] at hC
  (refine vw_go rfl ?_; simp only [h0, go_sem, setCells, setIn])
  (refine vw_cond (t := false) rfl (fun h => nomatch h) (fun _ => ?_))
  by_cases h1 : b = 1
  · rw [if_pos h1] at hC
    obtain ⟨rfl, rfl⟩ := hC
    subst h1
    (refine vw_go rfl ?_; simp only [go_sem, setCells, setIn])
    (refine vw_cond (t := true) rfl (fun _ => ?_) (fun h => nomatch h))
    have l1 : 1 ≤ w.length := by rw [hf.1]; decide
    (refine vw_last rfl ?_; simp only [l1, go_sem, setCells, setIn])
    refine (n_block (n_then ?_))
    (refine vw_go rfl ?_; simp only [go_sem, setCells, setIn])
    have l2 : 1 + (w.length - 1) ≤ w.length := by omega
    have bd : List.take (w.length - 1) (List.drop 1 (w.map sRow)) = (w.drop 1).map sRow := by rw [← List.map_drop]; exact List.take_of_length_le (by simp)
    exact vw_ret (e_ret (ret_b rfl rfl (by simp [RB]) rfl (by simp only [takeCs, takeC, bd, l2, List.drop_length, go_sem, setCells, setIn]; rfl) (by exact ⟨⟨by simp, _, rfl, rfl, rfl, rfl⟩, trivial⟩)))
  rw [if_neg h1] at hC
  (refine vw_go rfl ?_; simp only [h1, go_sem, setCells, setIn])
  (refine vw_cond (t := false) rfl (fun h => nomatch h) (fun _ => ?_))
  by_cases h2 : b = 2
  · rw [if_pos h2] at hC
    obtain ⟨rfl, rfl⟩ := hC
    subst h2
    (refine vw_go rfl ?_; simp only [go_sem, setCells, setIn])
    (refine vw_cond (t := true) rfl (fun _ => ?_) (fun h => nomatch h))
    have B1 : ¬ (w.length + 1 + 1) * (16 + 1) > bigRow := by rw [hf.1]; decide
    (refine vw_last rfl ?_; simp only [B1, range1, List.replicate_succ, List.replicate_zero, List.flatten_cons, List.flatten_nil, List.range_zero, gt_iff_lt, List.drop_length, bw, go_sem, setCells, setIn])
    refine (n_block (n_then ?_))
    (refine vw_go rfl ?_; simp only [go_sem, setCells, setIn])
    have l2 : w.length + 1 ≤ (w.map sRow ++ [[T.str (⟨#[]⟩ : ByteArray)]]).length := by simp
    have bd : List.take (w.length + 1) (w.map sRow ++ [[T.str (⟨#[]⟩ : ByteArray)]]) = (w ++ [(⟨#[]⟩ : ByteArray)]).map sRow := by rw [List.map_append]; exact List.take_of_length_le (by simp)
    exact vw_ret (e_ret (ret_b rfl rfl (by simp [RB]) rfl (by simp only [takeCs, takeC, bd, l2, List.drop_length, go_sem, setCells, setIn]; rfl) (by exact ⟨⟨by simp, _, rfl, rfl, rfl, rfl⟩, trivial⟩)))
  rw [if_neg h2] at hC
  obtain ⟨rfl, rfl⟩ := hC
  (refine vw_go rfl ?_; simp only [h2, go_sem, setCells, setIn])
  (refine vw_cond (t := false) rfl (fun h => nomatch h) (fun _ => ?_))
  refine vw_skip (n_block (n_then ?_))
  (refine vw_go rfl ?_; simp only [go_sem, setCells, setIn])
  exact vw_ret (e_ret (ret_b rfl rfl (by simp [RB]) rfl (by simp only [takeCs, takeC, bw, List.drop_length, go_sem, setCells, setIn]; rfl) (by exact ⟨⟨by simp, _, rfl, rfl, rfl, rfl⟩, trivial⟩)))
end Go.Proofs.YtdikikcingempaaDoor
