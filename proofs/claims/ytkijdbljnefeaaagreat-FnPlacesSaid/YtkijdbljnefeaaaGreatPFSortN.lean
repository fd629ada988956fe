/- slices.Sort at []int, of few numbers: a number is put where it belongs, one behind the other. -/
import Derived.Test.YtkijdbljnefeaaaGreatPFLenN
import Derived.Test.YtkijdbljnefeaaaGreatPFPlaceL
import Derived.Test.YtkijdbljnefeaaaGreatPFRepeat
import Derived.Test.YtkijdbljnefeaaaGreatPFIn
set_option linter.unusedSimpArgs false
set_option linter.unusedVariables false
namespace Go.Proofs.YtkijdbljnefeaaaGreat
open Go.VM Go
set_option maxRecDepth 100000
attribute [-go_sem] runW_cons
attribute [local congr] vw_congr runV_congr runH_congr runW_congr runX_congr stuckV_congr stuckX_congr
theorem runs_123 (s : Int) : Runs Tryz.prog 123 [.one (.v (.int .i64 s))] [.one (.v (.bool false))] [] := by
  refine runs_tab (tab := [(0, .c (.int .i64 s))]) (rts := []) (n := 6) (k := 1) Tryz.func123 rfl rfl (by simp) rfl (fun t => ?_) rfl ?_
  · rcases t with _ | t <;> rfl
  refine vw_go rfl ?_; simp only [go_sem, setCells, setIn]
  refine vw_go rfl ?_; simp only [go_sem, setCells, setIn]
  exact vw_ret (e_ret (ret_of rfl rfl (by simp [RB]) rfl rfl))
theorem runs_98 (s t : Int) : Runs Tryz.prog 98 [.one (.v (.int .i64 s)), .one (.v (.int .i64 t))] [.one (.v (.bool (decide (s < t))))] [] := by
  refine runs_tab (tab := [(0, .c (.int .i64 s)), (1, .c (.int .i64 t))]) (rts := []) (n := 17) (k := 2) Tryz.func98 rfl rfl (by simp) rfl (fun t => ?_) rfl ?_
  · rcases t with _ | _ | t <;> rfl
  refine vw_go rfl ?_; simp only [go_sem, setCells, setIn]
  refine vw_go rfl ?_; simp only [go_sem, setCells, setIn]
  refine ⟨_, _, call_rd [0] Tryz.func123 (runs_123 s) rfl rfl rfl rfl rfl rfl rfl rfl rfl rfl rfl rfl rfl, ?_⟩
  simp only [runH, runX, go_sem, setCells, setIn]
  exact vw_ret (e_ret (ret_of rfl rfl (by simp [RB]) rfl rfl))
theorem sort_step {L : List Int} {i : Nat} {s : Int} (hs : L[i]? = some s) : sortN (L.take (i + 1)) = insN (sortN (L.take i)) s := by
  unfold sortN
  rw [List.take_add_one, hs, List.foldl_append]
  rfl
theorem nodup_at : ∀ {L : List Int} {j i : Nat} {s : Int}, L.Nodup → j < i → L[j]? = L[i]? → L[i]? = some s → False
  | [], _, _, _, _, _, _, h => by simp at h
  | a :: L, 0, i + 1, s, hd, _, he, h => by
    rw [List.nodup_cons] at hd
    simp only [List.getElem?_cons_succ] at h he
    rw [h] at he
    simp only [List.getElem?_cons_zero, Option.some.injEq] at he
    subst he
    exact hd.1 (List.mem_of_getElem? h)
  | a :: L, j + 1, i + 1, s, hd, hji, he, h => by
    rw [List.nodup_cons] at hd
    simp only [List.getElem?_cons_succ] at h he
    exact nodup_at hd.2 (by omega) he h
theorem sort_pre {L : List Int} (hd : L.Nodup) {i : Nat} {s : Int} (hs : L[i]? = some s) : AscN (sortN (L.take i)) ∧ s ∉ sortN (L.take i) ∧ (sortN (L.take i)).length = i := by
  have hin := lt_of_getl hs
  have hdt : (L.take i).Nodup := hd.sublist (List.take_sublist i L)
  obtain ⟨h1, h2⟩ := sortN_asc (L.take i) [] (by simp [AscN]) hdt (fun x _ h => nomatch h)
  refine ⟨h1, fun h => ?_, ?_⟩
  · have h3 := (h2 s).1 h
    rcases h3 with h3 | h3
    · obtain ⟨j, hj⟩ := List.getElem?_of_mem h3
      rw [List.getElem?_take] at hj
      split at hj
      · rename_i hji
        exact nodup_at hd hji (by rw [hj, hs]) hs
      · cases hj
    · cases h3
  · have : ∀ (l acc : List Int), (l.foldl insN acc).length = acc.length + l.length := by
      intro l
      induction l with
      | nil => intro acc; simp
      | cons x l ih => intro acc; rw [List.foldl_cons, ih, insN_len, List.length_cons]; omega
    unfold sortN
    rw [this, List.length_take, List.length_nil]; omega
theorem snoc_of : ∀ (P : List Int), P ≠ [] → ∃ P' u, P = P' ++ [u]
  | [], h => absurd rfl h
  | [a], _ => ⟨[], a, rfl⟩
  | a :: b :: P, _ => by
    obtain ⟨P', u, e⟩ := snoc_of (b :: P) (by simp)
    exact ⟨a :: P', u, by rw [e]; rfl⟩
set_option maxHeartbeats 2000000 in
theorem runs_92 (L : List Int) (hl : L.length ≤ 12) (hd : L.Nodup) :
    Runs Tryz.prog 92 [.one (.v (.list true 1 (L.map nRow))), .one (.v (.int .i64 0)), .one (.v (.int .i64 L.length))] [] [(0, ⟨false, 1, (sortN L).map nRow, []⟩)] := by
  refine runs_tabB (tab := [(0, .al 0 [] 0 1 0 L.length), (1, .c (.int .i64 0)), (2, .c (.int .i64 L.length))]) (rts := [(0, some ⟨false, 1, L.map nRow, []⟩)]) (n := 49) (k := 3) Tryz.func92 rfl rfl (by simp) rfl (fun t => ?_) rfl ?_
  · rcases t with _ | _ | _ | t <;> simp [envOf, rvv, RT.vv, CT.vv, cvv, tabE_cons, tabE_nil, rcells, RT.cells]
  refine vw_go rfl ?_; simp only [go_sem, setCells, setIn]
  refine vw_block ?_
  refine vw_loop_tab (α := Nat × List Int) (fun x => L.length + 1 - x.1) (fun x => ⟨tabE [(0, .al 0 [] 0 1 0 L.length), (1, .c (.int .i64 0)), (2, .c (.int .i64 L.length)), (6, .c (.int .i64 x.1))], tabS [(0, some ⟨false, 1, x.2.map nRow, []⟩)], 3⟩)
    (fun x => 1 ≤ x.1 ∧ x.2 = sortN (L.take x.1) ++ L.drop x.1) (x := (1, L)) ?round ?h0 ?hn
  case h0 =>
    refine ⟨Nat.le_refl _, ?_⟩
    cases L with
    | nil => rfl
    | cons a L => rfl
  case hn =>
    refine norm_to [(0, 0)] rfl ?_ ?_ <;> simp only [go_sem]
    · rfl
  rintro ⟨i, w⟩ ⟨hi, hw⟩
  simp only at hi hw
  refine vw_seq ?_
  by_cases hc : (i : Int) < L.length
  case neg =>
    rw [List.take_of_length_le (by omega), List.drop_of_length_le (by omega), List.append_nil] at hw
    subst hw
    refine vw_go rfl ?_; simp only [hc, go_sem, setCells, setIn]
    refine vw_cond (t := false) rfl (fun h => nomatch h) (fun _ => ?_)
    refine vw_exit (x_then (x_then (x_block (e_normal ?_))))
    exact (ret_b rfl rfl (by simp [RB]) rfl rfl ⟨⟨by simp, _, rfl, rfl, rfl, rfl⟩, trivial⟩)
  have hin : i < L.length := by omega
  obtain ⟨s, hs⟩ : ∃ s, L[i]? = some s := ⟨_, List.getElem?_eq_getElem hin⟩
  obtain ⟨hasc, hns, hSl⟩ := sort_pre hd hs
  have hst := sort_step hs
  rw [drop_of hs] at hw
  have hRl : i + 1 + (L.drop (i + 1)).length = L.length := by rw [List.length_drop]; omega
  generalize hR : L.drop (i + 1) = R at hw hRl
  generalize sortN (L.take i) = S at hasc hns hSl hst hw
  subst hw
  subst hSl
  have w3 : IntKind.wrap .i64 ((S.length:Int) + 1) = ((S.length + 1 : Nat) : Int) := by rw [wrap_i64 (by omega) (by omega)]; rfl
  refine vw_go rfl ?_; simp only [hc, go_sem, setCells, setIn]
  refine vw_cond (t := true) rfl (fun _ => ?_) (fun h => nomatch h)
  refine vw_skip (n_then ?_)
  refine vw_seq ?_
  refine vw_block ?_
  refine vw_go rfl ?_; simp only [go_sem, setCells, setIn]
  refine vw_block ?_
  refine vw_loop_tab (α := List Int × List Int) (fun x => x.1.length) (fun x => ⟨tabE [(0, .al 0 [] 0 1 0 L.length), (1, .c (.int .i64 0)), (2, .c (.int .i64 L.length)), (6, .c (.int .i64 S.length)), (7, .c (.int .i64 x.1.length))], tabS [(0, some ⟨false, 1, (x.1 ++ s :: (x.2 ++ R)).map nRow, []⟩)], 3⟩)
    (fun x => S = x.1 ++ x.2 ∧ ∀ u ∈ x.2, s < u) (x := (S, [])) ?round2 ?h02 ?hn2
  case h02 => exact ⟨(List.append_nil _).symm, fun u h => nomatch h⟩
  case hn2 =>
    refine norm_to [(0, 0)] rfl ?_ ?_ <;> simp only [go_sem]
  rintro ⟨P, Q⟩ ⟨hPQ, hQ⟩
  simp only at hPQ hQ
  have hdone : (∀ u ∈ P, u < s) → P ++ s :: (Q ++ R) = sortN (L.take (S.length + 1)) ++ L.drop (S.length + 1) := fun hP => by
    rw [hst, hPQ, insN_of hP hQ, ← hPQ, hR]; simp
  have hlen : (P ++ s :: (Q ++ R)).length = L.length := by rw [← hRl, hPQ]; simp; omega
  refine vw_seq ?_
  rcases Decidable.em (P = []) with rfl | hne
  case inl =>
    have hdn := hdone (fun u h => nomatch h)
    have z0 : ¬ (0 : Int) < (([] : List Int).length : Int) := by simp
    refine vw_drawA mixed rfl rfl ?_; intro A hAA
    have k3 : (A[3]?).bind (·.dst) = some 19 := by subst hAA; rfl
    simp (maxSteps := 1000000) only [z0, k3, go_sem, setCells, setIn, runW_step]
    refine ⟨by subst hAA; unfold allOk; kernel_rfl, ?_⟩
    refine vw_cond (t := false) rfl (fun h => nomatch h) (fun _ => ?_)
    refine vw_exit (x_then (x_then (x_block (n_block (n_then ?_)))))
    refine vw_last rfl ?_; simp only [w3, go_sem, setCells, setIn]
    refine (n_then ?_)
    refine ⟨(S.length + 1, _), by simp only; omega, ⟨by simp only; omega, hdn⟩, ?_⟩
    refine norm_to [(0, 0)] rfl ?_ ?_ <;> simp only [go_sem]
  obtain ⟨P', u, rfl⟩ := snoc_of P hne
  have hPu : (P' ++ [u]).length = P'.length + 1 := by simp
  have gj : (P' ++ [u] ++ s :: (Q ++ R))[(P' ++ [u]).length]? = some s := by simp
  have gi : (P' ++ [u] ++ s :: (Q ++ R))[P'.length]? = some u := by simp
  have hjl : (P' ++ [u]).length < L.length := by rw [← hlen]; simp
  have hjW : (P' ++ [u]).length < (P' ++ [u] ++ s :: (Q ++ R)).length := by simp
  have hswap : (((P' ++ [u] ++ s :: (Q ++ R)).map nRow).set (P' ++ [u]).length [.int .i64 u]).set P'.length [.int .i64 s] = (P' ++ s :: ((u :: Q) ++ R)).map nRow := by
    simp [nRow]
  have hltP : ¬ s < u → ∀ v ∈ P' ++ [u], v < s := fun h v hv => by
    have hSu : u ∈ S := by rw [hPQ]; simp
    have hus : u < s := by
      have : u ≠ s := fun e => hns (e ▸ hSu)
      omega
    rcases List.mem_append.1 hv with hv | hv
    · rw [hPQ, List.append_assoc] at hasc
      have := (List.pairwise_append.1 hasc).2.2 v hv u (by simp)
      exact Int.lt_trans this hus
    · rw [List.mem_singleton] at hv; rw [hv]; exact hus
  generalize P' ++ [u] ++ s :: (Q ++ R) = W at *
  generalize (P' ++ [u]).length = j at *
  have hiW : P'.length < W.length := by omega
  have e1 : ((W.map nRow).set j [.int .i64 u]).getD P'.length [] = [.int .i64 u] := by
    rw [List.getD_eq_getElem?_getD, List.getElem?_set_ne (by omega), ← List.getD_eq_getElem?_getD, getD_map_of gi, nRow]
  have z0 : (0 : Int) < (j : Int) := by omega
  have w4 : IntKind.wrap .i64 ((j:Int) - 1) = (P'.length : Int) := by rw [wrap_i64 (by omega) (by omega)]; omega
  have c0 : (0 : Int) ≤ (j : Int) := by omega
  have c1 : (j : Int) < (L.length : Int) := by omega
  have c2 : (0 : Int) ≤ (P'.length : Int) := by omega
  have c3 : (P'.length : Int) < (L.length : Int) := by omega
  refine vw_drawA mixed rfl rfl ?_; intro A hAA
  have k3 : (A[3]?).bind (·.dst) = some 19 := by subst hAA; rfl
  simp (maxSteps := 1000000) only [z0, w4, c0, c1, c2, c3, hjW, hiW, List.length_map, Int.toNat_natCast, getD_map_of gj, getD_map_of gi, nRow, k3, go_sem, setCells, setIn, runW_step]
  refine ⟨_, _, _, call_rd_at [0, 0] [] Tryz.func98 (runs_98 s u) (fun _ _ => rfl) rfl rfl rfl rfl rfl rfl rfl rfl rfl rfl rfl rfl, ?_⟩
  by_cases hlt : s < u
  case neg =>
    have qlt : decide (s < u) = false := decide_eq_false hlt
    (unfold runX; simp (maxSteps := 1000000) only [k3, qlt, go_sem, setCells, setIn, runW_step])
    refine ⟨by subst hAA; unfold allOk; kernel_rfl, ?_⟩
    refine vw_cond (t := false) rfl (fun h => nomatch h) (fun _ => ?_)
    refine vw_exit (x_then (x_then (x_block (n_block (n_then ?_)))))
    have hdn := hdone (hltP hlt)
    refine vw_last rfl ?_; simp only [w3, go_sem, setCells, setIn]
    refine (n_then ?_)
    refine ⟨(S.length + 1, _), by simp only; omega, ⟨by simp only; omega, hdn⟩, ?_⟩
    refine norm_to [(0, 0)] rfl ?_ ?_ <;> simp only [go_sem]
  have qlt : decide (s < u) = true := decide_eq_true hlt
  (unfold runX; simp (maxSteps := 1000000) only [k3, qlt, go_sem, setCells, setIn, runW_step])
  refine ⟨by subst hAA; unfold allOk; kernel_rfl, ?_⟩
  refine vw_cond (t := true) rfl (fun _ => ?_) (fun h => nomatch h)
  refine vw_skip (n_then ?_)
  refine vw_seq ?_
  refine vw_block ?_
  refine vw_drawA_last mixed rfl rfl ?_
  intro A hAA
  simp (maxSteps := 1000000) only [w4, c0, c1, c2, c3, hjW, hiW, List.length_map, Int.toNat_natCast, getD_map_of gj, getD_map_of gi, nRow, e1, hswap, List.length_set, go_sem, setCells, setIn, runW_step]
  refine ⟨by subst hAA; unfold allOk; kernel_rfl, ?_⟩
  refine (n_block (n_then ?_))
  refine vw_last rfl ?_; simp only [w4, go_sem, setCells, setIn]
  refine (n_then ?_)
  refine ⟨(P', u :: Q), by simp only; omega, ⟨by rw [hPQ]; simp, fun v hv => ?_⟩, ?_⟩
  · rcases List.mem_cons.1 hv with rfl | hv
    · exact hlt
    · exact hQ v hv
  refine norm_to [(0, 0)] rfl ?_ ?_ <;> simp only [go_sem]
theorem runs_68 (L : List Int) (hl : L.length ≤ 12) (hd : L.Nodup) (lim : Int) :
    Runs Tryz.prog 68 [.one (.v (.list true 1 (L.map nRow))), .one (.v (.int .i64 0)), .one (.v (.int .i64 L.length)), .one (.v (.int .i64 lim))] [] [(0, ⟨false, 1, (sortN L).map nRow, []⟩)] := by
  refine runs_tabB (tab := [(0, .al 0 [] 0 1 0 L.length), (1, .c (.int .i64 0)), (2, .c (.int .i64 L.length)), (3, .c (.int .i64 lim))]) (rts := [(0, some ⟨false, 1, L.map nRow, []⟩)]) (n := 134) (k := 4) Tryz.func68 rfl rfl (by simp) rfl (fun t => ?_) rfl ?_
  · rcases t with _ | _ | _ | _ | t <;> simp [envOf, rvv, RT.vv, CT.vv, cvv, tabE_cons, tabE_nil, rcells, RT.cells]
  have w0 : IntKind.wrap .i64 ((L.length:Int) - 0) = (L.length : Int) := by rw [wrap_i64 (by omega) (by omega)]; omega
  have c0 : (L.length : Int) ≤ 12 := by omega
  refine vw_go rfl ?_; simp only [go_sem, setCells, setIn]
  refine vw_go rfl ?_; simp only [go_sem, setCells, setIn]
  refine vw_block ?_
  refine vw_loop_tab (α := Unit) (fun x => 0) (fun x => ⟨tabE [(0, .al 0 [] 0 1 0 L.length), (1, .c (.int .i64 0)), (2, .c (.int .i64 L.length)), (3, .c (.int .i64 lim))], tabS [(0, some ⟨false, 1, L.map nRow, []⟩)], 4⟩)
    (fun x => True) (x := ()) ?round trivial ?hn
  case hn =>
    refine norm_to [(0, 0)] rfl ?_ ?_ <;> simp only [go_sem]
  rintro ⟨⟩ -
  refine vw_block ?_
  refine vw_go rfl ?_; simp only [w0, go_sem, setCells, setIn]
  refine vw_seq ?_
  refine vw_go rfl ?_; simp only [c0, go_sem, setCells, setIn]
  refine vw_cond (t := true) rfl (fun _ => ?_) (fun h => nomatch h)
  refine vw_go rfl ?_; simp only [go_sem, setCells, setIn]
  refine ⟨_, _, call_bs [0, 0, 0] [.back, .ro, .ro] [(0, 0, ⟨false, 1, L.map nRow, []⟩)] [(sortN L).map nRow] (rest := [.c (.int .i64 0), .c (.int .i64 L.length)]) Tryz.func92 (runs_92 L hl hd) rfl rfl rfl rfl rfl rfl rfl rfl (by simp [VV.cells, ev, tabE_cons, nRow_r1, nRow_comp, nRow_clean]) (by simp [tabS_cons, nRow_r1, nRow_comp, nRow_clean]) (by simp) rfl rfl (by simp [rcells, RT.cells, nRow_r1, nRow_comp, nRow_clean]) rfl rfl (by simp [clean_map, nRow_r1, nRow_comp, nRow_clean]) rfl rfl, ?_⟩
  simp only [runH, runX, go_sem, setCells, setIn]
  refine vw_ret ?_
  repeat (first | refine r_then ?_ | refine r_block ?_)
  refine e_ret ?_
  exact (ret_b rfl rfl (by simp [RB]) rfl rfl ⟨⟨by simp, _, rfl, rfl, rfl, rfl⟩, trivial⟩)
theorem runs_51 (L : List Int) (hl : L.length ≤ 6) (hd : L.Nodup) :
    Runs Tryz.prog 51 [.one (.v (.list true 1 (L.map nRow)))] [] [(0, ⟨false, 1, (sortN L).map nRow, []⟩)] := by
  refine runs_tabB (tab := [(0, .al 0 [] 0 1 0 L.length)]) (rts := [(0, some ⟨false, 1, L.map nRow, []⟩)]) (n := 11) (k := 1) Tryz.func51 rfl rfl (by simp) rfl (fun t => ?_) rfl ?_
  · rcases t with _ | t <;> simp [envOf, rvv, RT.vv, CT.vv, cvv, tabE_cons, tabE_nil, rcells, RT.cells]
  have w0 : IntKind.wrap .u64 (L.length:Int) = (L.length : Int) := by
    unfold IntKind.wrap
    simp only [IntKind.bits, IntKind.signed, Bool.false_and, Bool.false_eq_true, if_false]
    omega
  refine vw_go rfl ?_; simp only [go_sem, setCells, setIn]
  refine vw_last rfl ?_; simp only [w0, go_sem, setCells, setIn]
  refine ⟨_, _, call_rd [0] Tryz.func69 (runs_69 L.length hl) rfl rfl rfl rfl rfl rfl rfl rfl rfl rfl rfl rfl rfl, ?_⟩
  simp only [runH, runX, go_sem, setCells, setIn]
  refine ⟨_, _, call_bs [0, 0, 0, 0] [.back, .ro, .ro, .ro] [(0, 0, ⟨false, 1, L.map nRow, []⟩)] [(sortN L).map nRow] (rest := [.c (.int .i64 0), .c (.int .i64 L.length), .c (.int .i64 (lenT L.length))]) Tryz.func68 (runs_68 L (by omega) hd (lenT L.length)) rfl rfl rfl rfl rfl rfl rfl rfl (by simp [VV.cells, ev, tabE_cons, lit, nRow_r1, nRow_comp, nRow_clean]) (by simp [tabS_cons, lit, nRow_r1, nRow_comp, nRow_clean]) (by simp) rfl rfl (by simp [rcells, RT.cells, lit, nRow_r1, nRow_comp, nRow_clean]) rfl rfl (by simp [clean_map, lit, nRow_r1, nRow_comp, nRow_clean]) rfl rfl, ?_⟩
  simp only [runH, runX, go_sem, setCells, setIn]
  exact e_normal (ret_b rfl rfl (by simp [RB]) rfl rfl ⟨⟨by simp, _, rfl, rfl, rfl, rfl⟩, trivial⟩)
end Go.Proofs.YtkijdbljnefeaaaGreat
