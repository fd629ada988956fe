/- slices.Sort at []string, of few texts: a text is put where it belongs, one behind the other. Plain of the program: a folder's names. Plain: a folder's names of both, the same text. -/
import Derived.Test.YtoenfbbadfcfpaaGreatDoorPFJoin
import Derived.Test.YtoenfbbadfcfpaaGreatDoorPFOp
import Derived.Test.YtoenfbbadfcfpaaGreatDoorPFDraw
namespace Go.Proofs.YtoenfbbadfcfpaaGreatDoor
open Go.VM Go
set_option maxRecDepth 100000
set_option linter.unusedSimpArgs false
set_option linter.unusedVariables false
attribute [-go_sem] runW_cons
attribute [local congr] vw_congr runV_congr runH_congr runW_congr runX_congr stuckV_congr stuckX_congr
theorem runs_160 (s : ByteArray) : Runs Tryz.prog 160 [.one (.v (.str s))] [.one (.v (.bool false))] [] := by
  refine runs_tab (tab := [(0, .c (.str s))]) (rts := []) (n := 6) (k := 1) Tryz.func160 rfl rfl (by simp) rfl (fun t => ?_) rfl ?_
  · rcases t with _ | t <;> rfl
  (refine vw_go rfl ?_; simp only [go_sem, setCells, setIn])
  (refine vw_go rfl ?_; simp only [go_sem, setCells, setIn])
  exact vw_ret (e_ret (ret_of rfl rfl (by simp [RB]) rfl rfl))
theorem runs_137 (s t : ByteArray) : Runs Tryz.prog 137 [.one (.v (.str s)), .one (.v (.str t))] [.one (.v (.bool (ltB s t)))] [] := by
  refine runs_tab (tab := [(0, .c (.str s)), (1, .c (.str t))]) (rts := []) (n := 17) (k := 2) Tryz.func137 rfl rfl (by simp) rfl (fun t => ?_) rfl ?_
  · rcases t with _ | _ | t <;> rfl
  unfold ltB
  (refine vw_go rfl ?_; simp only [go_sem, setCells, setIn])
  (refine vw_go rfl ?_; simp only [go_sem, setCells, setIn])
  (refine ⟨_, _, call_rd [0] Tryz.func160 (runs_160 s) rfl rfl rfl rfl rfl rfl rfl rfl rfl rfl rfl rfl rfl, ?_⟩)
  simp only [runH, runX, go_sem, setCells, setIn]
  exact vw_ret (e_ret (ret_of rfl rfl (by simp [RB]) rfl rfl))

theorem sort_step {L : List ByteArray} {i : Nat} {s : ByteArray} (hs : L[i]? = some s) : sortL (L.take (i + 1)) = insG (sortL (L.take i)) s := by
  unfold sortL
  rw [List.take_add_one, hs, List.foldl_append]
  rfl
theorem nodup_at : ∀ {L : List ByteArray} {j i : Nat} {s : ByteArray}, L.Nodup → j < i → L[j]? = L[i]? → L[i]? = some s → False
  | [], _, _, _, _, _, _, h => by simp at h
  | a :: L, 0, i + 1, s, hd, _, he, h => by
    rw [List.nodup_cons] at hd
    simp only [List.getElem?_cons_succ] at h he
    rw [h] at he
    simp only [List.getElem?_cons_zero, Option.some.injEq] at he
    subst he
    exact hd.1 (List.mem_of_getElem? h)
  | a :: L, j + 1, i + 1, s, hd, hji, he, h => by
    rw [List.nodup_cons] at hd
    simp only [List.getElem?_cons_succ] at h he
    exact nodup_at hd.2 (by omega) he h
theorem sort_pre {L : List ByteArray} (hd : L.Nodup) {i : Nat} {s : ByteArray} (hs : L[i]? = some s) : Asc (sortL (L.take i)) ∧ s ∉ sortL (L.take i) ∧ (sortL (L.take i)).length = i := by
  have hin := lt_of_getl hs
  have hdt : (L.take i).Nodup := hd.sublist (List.take_sublist i L)
  obtain ⟨h1, h2⟩ := sort_asc (L.take i) [] (by simp [Asc]) hdt (fun x _ h => nomatch h)
  refine ⟨h1, fun h => ?_, ?_⟩
  · have h3 := (h2 s).1 h
    rcases h3 with h3 | h3
    · obtain ⟨j, hj⟩ := List.getElem?_of_mem h3
      rw [List.getElem?_take] at hj
      split at hj
      · rename_i hji
        exact nodup_at hd hji (by rw [hj, hs]) hs
      · cases hj
    · cases h3
  · have : ∀ (l acc : List ByteArray), (l.foldl insG acc).length = acc.length + l.length := by
      intro l
      induction l with
      | nil => intro acc; simp
      | cons x l ih => intro acc; rw [List.foldl_cons, ih, ins_len, List.length_cons]; omega
    unfold sortL
    rw [this, List.length_take, List.length_nil]; omega
theorem snoc_of : ∀ (P : List ByteArray), P ≠ [] → ∃ P' u, P = P' ++ [u]
  | [], h => absurd rfl h
  | [a], _ => ⟨[], a, rfl⟩
  | a :: b :: P, _ => by
    obtain ⟨P', u, e⟩ := snoc_of (b :: P) (by simp)
    exact ⟨a :: P', u, by rw [e]; rfl⟩

set_option maxHeartbeats 2000000 in
theorem runs_131 (L : List ByteArray) (hl : L.length ≤ 12) (hd : L.Nodup) :
    Runs Tryz.prog 131 [.one (.v (.list true 1 (L.map sRow))), .one (.v (.int .i64 0)), .one (.v (.int .i64 L.length))] [] [(0, ⟨false, 1, (sortL L).map sRow, []⟩)] := by
  refine runs_tabB (tab := [(0, .al 0 [] 0 1 0 L.length), (1, .c (.int .i64 0)), (2, .c (.int .i64 L.length))]) (rts := [(0, some ⟨false, 1, L.map sRow, []⟩)]) (n := 49) (k := 3) Tryz.func131 rfl rfl (by simp) rfl (fun t => ?_) rfl ?_
  · rcases t with _ | _ | _ | t <;> simp [envOf, rvv, RT.vv, CT.vv, cvv, tabE_cons, tabE_nil, rcells, RT.cells]
  (refine vw_go rfl ?_; simp only [go_sem, setCells, setIn])
  refine vw_block ?_
  refine vw_loop_tab (α := Nat × List ByteArray) (fun x => L.length + 1 - x.1) (fun x => ⟨tabE [(0, .al 0 [] 0 1 0 L.length), (1, .c (.int .i64 0)), (2, .c (.int .i64 L.length)), (6, .c (.int .i64 x.1))], tabS [(0, some ⟨false, 1, x.2.map sRow, []⟩)], 3⟩)
    (fun x => 1 ≤ x.1 ∧ x.2 = sortL (L.take x.1) ++ L.drop x.1) (x := (1, L)) ?round ?h0 ?hn
  case h0 =>
    refine ⟨Nat.le_refl _, ?_⟩
    cases L with
    | nil => rfl
    | cons a L => rfl
  case hn =>
    (refine norm_to [(0, 0)] rfl ?_ ?_ <;> simp only [go_sem])
    · rfl
  rintro ⟨i, w⟩ ⟨hi, hw⟩
  simp only at hi hw
  refine vw_seq ?_
  by_cases hc : (i : Int) < L.length
  case neg =>
    rw [List.take_of_length_le (by omega), List.drop_of_length_le (by omega), List.append_nil] at hw
    subst hw
    (refine vw_go rfl ?_; simp only [hc, go_sem, setCells, setIn])
    (refine vw_cond (t := false) rfl (fun h => nomatch h) (fun _ => ?_))
    refine vw_exit (x_then (x_then (x_block (e_normal ?_))))
    exact (ret_b rfl rfl (by simp [RB]) rfl rfl ⟨⟨by simp, _, rfl, rfl, rfl, rfl⟩, trivial⟩)
  have hin : i < L.length := by omega
  obtain ⟨s, hs⟩ : ∃ s, L[i]? = some s := ⟨_, List.getElem?_eq_getElem hin⟩
  obtain ⟨hasc, hns, hSl⟩ := sort_pre hd hs
  have hst := sort_step hs
  rw [drop_of hs] at hw
  have hRl : i + 1 + (L.drop (i + 1)).length = L.length := by rw [List.length_drop]; omega
  generalize hR : L.drop (i + 1) = R at hw hRl
  generalize sortL (L.take i) = S at hasc hns hSl hst hw
  subst hw
  subst hSl
  have w3 : IntKind.wrap .i64 ((S.length:Int) + 1) = ((S.length + 1 : Nat) : Int) := by rw [wrap_i64 (by omega) (by omega)]; rfl
  (refine vw_go rfl ?_; simp only [hc, go_sem, setCells, setIn])
  (refine vw_cond (t := true) rfl (fun _ => ?_) (fun h => nomatch h))
  refine vw_skip (n_then ?_)
  refine vw_seq ?_
  refine vw_block ?_
  (refine vw_go rfl ?_; simp only [go_sem, setCells, setIn])
  refine vw_block ?_
  refine vw_loop_tab (α := List ByteArray × List ByteArray) (fun x => x.1.length) (fun x => ⟨tabE [(0, .al 0 [] 0 1 0 L.length), (1, .c (.int .i64 0)), (2, .c (.int .i64 L.length)), (6, .c (.int .i64 S.length)), (7, .c (.int .i64 x.1.length))], tabS [(0, some ⟨false, 1, (x.1 ++ s :: (x.2 ++ R)).map sRow, []⟩)], 3⟩)
    (fun x => S = x.1 ++ x.2 ∧ ∀ u ∈ x.2, ltB s u = true) (x := (S, [])) ?round2 ?h02 ?hn2
  case h02 => exact ⟨(List.append_nil _).symm, fun u h => nomatch h⟩
  case hn2 =>
    (refine norm_to [(0, 0)] rfl ?_ ?_ <;> simp only [go_sem])
  rintro ⟨P, Q⟩ ⟨hPQ, hQ⟩
  simp only at hPQ hQ
  have hdone : (∀ u ∈ P, ltB u s = true) → P ++ s :: (Q ++ R) = sortL (L.take (S.length + 1)) ++ L.drop (S.length + 1) := fun hP => by
    rw [hst, hPQ, ins_of hP hQ, ← hPQ, hR]; simp
  have hlen : (P ++ s :: (Q ++ R)).length = L.length := by rw [← hRl, hPQ]; simp; omega
  refine vw_seq ?_
  rcases Decidable.em (P = []) with rfl | hne
  case inl =>
    have hdn := hdone (fun u h => nomatch h)
    have z0 : ¬ (0 : Int) < (([] : List ByteArray).length : Int) := by simp
    (refine vw_drawA mixed rfl rfl ?_; intro A hAA)
    have k3 : (A[3]?).bind (·.dst) = some 19 := by subst hAA; rfl
    simp (maxSteps := 1000000) only [z0, k3, go_sem, setCells, setIn, runW_step]
    refine ⟨by subst hAA; unfold allOk; kernel_rfl, ?_⟩
    (refine vw_cond (t := false) rfl (fun h => nomatch h) (fun _ => ?_))
    refine vw_exit (x_then (x_then (x_block (n_block (n_then ?_)))))
    (refine vw_last rfl ?_; simp only [w3, go_sem, setCells, setIn])
    refine (n_then ?_)
    refine ⟨(S.length + 1, _), by simp only; omega, ⟨by simp only; omega, hdn⟩, ?_⟩
    (refine norm_to [(0, 0)] rfl ?_ ?_ <;> simp only [go_sem])
  obtain ⟨P', u, rfl⟩ := snoc_of P hne
  have hPu : (P' ++ [u]).length = P'.length + 1 := by simp
  have gj : (P' ++ [u] ++ s :: (Q ++ R))[(P' ++ [u]).length]? = some s := by simp
  have gi : (P' ++ [u] ++ s :: (Q ++ R))[P'.length]? = some u := by simp
  have hjl : (P' ++ [u]).length < L.length := by rw [← hlen]; simp
  have hjW : (P' ++ [u]).length < (P' ++ [u] ++ s :: (Q ++ R)).length := by simp
  have hswap : (((P' ++ [u] ++ s :: (Q ++ R)).map sRow).set (P' ++ [u]).length [.str u]).set P'.length [.str s] = (P' ++ s :: ((u :: Q) ++ R)).map sRow := by
    simp [sRow]
  have hltP : ltB s u = false → ∀ v ∈ P' ++ [u], ltB v s = true := fun h v hv => by
    have hSu : u ∈ S := by rw [hPQ]; simp
    have hus : ltB u s = true := by
      cases h2 : ltB u s
      · exact absurd (ltB_total h2 h) (fun e => hns (e ▸ hSu))
      · rfl
    rcases List.mem_append.1 hv with hv | hv
    · rw [hPQ, List.append_assoc] at hasc
      have := (List.pairwise_append.1 hasc).2.2 v hv u (by simp)
      exact ltB_trans this hus
    · rw [List.mem_singleton] at hv; rw [hv]; exact hus
  generalize P' ++ [u] ++ s :: (Q ++ R) = W at *
  generalize (P' ++ [u]).length = j at *
  have hiW : P'.length < W.length := by omega
  have e1 : ((W.map sRow).set j [.str u]).getD P'.length [] = [.str u] := by
    rw [List.getD_eq_getElem?_getD, List.getElem?_set_ne (by omega), ← List.getD_eq_getElem?_getD, getD_map_of gi, sRow]
  have z0 : (0 : Int) < (j : Int) := by omega
  have w4 : IntKind.wrap .i64 ((j:Int) - 1) = (P'.length : Int) := by rw [wrap_i64 (by omega) (by omega)]; omega
  have c0 : (0 : Int) ≤ (j : Int) := by omega
  have c1 : (j : Int) < (L.length : Int) := by omega
  have c2 : (0 : Int) ≤ (P'.length : Int) := by omega
  have c3 : (P'.length : Int) < (L.length : Int) := by omega
  (refine vw_drawA mixed rfl rfl ?_; intro A hAA)
  have k3 : (A[3]?).bind (·.dst) = some 19 := by subst hAA; rfl
  simp (maxSteps := 1000000) only [z0, w4, c0, c1, c2, c3, hjW, hiW, List.length_map, Int.toNat_natCast, getD_map_of gj, getD_map_of gi, sRow, k3, go_sem, setCells, setIn, runW_step]
  (refine ⟨_, _, _, call_rd_at [0, 0] [] Tryz.func137 (runs_137 s u) (fun _ _ => rfl) rfl rfl rfl rfl rfl rfl rfl rfl rfl rfl rfl rfl, ?_⟩)
  cases hlt : ltB s u
  · (unfold runX; simp (maxSteps := 1000000) only [k3, go_sem, setCells, setIn, runW_step])
    refine ⟨by subst hAA; unfold allOk; kernel_rfl, ?_⟩
    (refine vw_cond (t := false) rfl (fun h => nomatch h) (fun _ => ?_))
    refine vw_exit (x_then (x_then (x_block (n_block (n_then ?_)))))
    have hdn := hdone (hltP hlt)
    (refine vw_last rfl ?_; simp only [w3, go_sem, setCells, setIn])
    refine (n_then ?_)
    refine ⟨(S.length + 1, _), by simp only; omega, ⟨by simp only; omega, hdn⟩, ?_⟩
    (refine norm_to [(0, 0)] rfl ?_ ?_ <;> simp only [go_sem])
  (unfold runX; simp (maxSteps := 1000000) only [k3, go_sem, setCells, setIn, runW_step])
  refine ⟨by subst hAA; unfold allOk; kernel_rfl, ?_⟩
  (refine vw_cond (t := true) rfl (fun _ => ?_) (fun h => nomatch h))
  refine vw_skip (n_then ?_)
  refine vw_seq ?_
  refine vw_block ?_
  refine vw_drawA_last mixed rfl rfl ?_
  intro A hAA
  simp (maxSteps := 1000000) only [w4, c0, c1, c2, c3, hjW, hiW, List.length_map, Int.toNat_natCast, getD_map_of gj, getD_map_of gi, sRow, e1, hswap, List.length_set, go_sem, setCells, setIn, runW_step]
  refine ⟨by subst hAA; unfold allOk; kernel_rfl, ?_⟩
  refine (n_block (n_then ?_))
  (refine vw_last rfl ?_; simp only [w4, go_sem, setCells, setIn])
  refine (n_then ?_)
  refine ⟨(P', u :: Q), by simp only; omega, ⟨by rw [hPQ]; simp, fun v hv => ?_⟩, ?_⟩
  · rcases List.mem_cons.1 hv with rfl | hv
    · exact hlt
    · exact hQ v hv
  (refine norm_to [(0, 0)] rfl ?_ ?_ <;> simp only [go_sem])

theorem runs_115 (L : List ByteArray) (hl : L.length ≤ 12) (hd : L.Nodup) (lim : Int) :
    Runs Tryz.prog 115 [.one (.v (.list true 1 (L.map sRow))), .one (.v (.int .i64 0)), .one (.v (.int .i64 L.length)), .one (.v (.int .i64 lim))] [] [(0, ⟨false, 1, (sortL L).map sRow, []⟩)] := by
  refine runs_tabB (tab := [(0, .al 0 [] 0 1 0 L.length), (1, .c (.int .i64 0)), (2, .c (.int .i64 L.length)), (3, .c (.int .i64 lim))]) (rts := [(0, some ⟨false, 1, L.map sRow, []⟩)]) (n := 134) (k := 4) Tryz.func115 rfl rfl (by simp) rfl (fun t => ?_) rfl ?_
  · rcases t with _ | _ | _ | _ | t <;> simp [envOf, rvv, RT.vv, CT.vv, cvv, tabE_cons, tabE_nil, rcells, RT.cells]
  have w0 : IntKind.wrap .i64 ((L.length:Int) - 0) = (L.length : Int) := by rw [wrap_i64 (by omega) (by omega)]; omega
  have c0 : (L.length : Int) ≤ 12 := by omega
  (refine vw_go rfl ?_; simp only [go_sem, setCells, setIn])
  (refine vw_go rfl ?_; simp only [go_sem, setCells, setIn])
  refine vw_block ?_
  refine vw_loop_tab (α := Unit) (fun x => 0) (fun x => ⟨tabE [(0, .al 0 [] 0 1 0 L.length), (1, .c (.int .i64 0)), (2, .c (.int .i64 L.length)), (3, .c (.int .i64 lim))], tabS [(0, some ⟨false, 1, L.map sRow, []⟩)], 4⟩)
    (fun x => True) (x := ()) ?round trivial ?hn
  case hn =>
    (refine norm_to [(0, 0)] rfl ?_ ?_ <;> simp only [go_sem])
  rintro ⟨⟩ -
  refine vw_block ?_
  (refine vw_go rfl ?_; simp only [w0, go_sem, setCells, setIn])
  refine vw_seq ?_
  (refine vw_go rfl ?_; simp only [c0, go_sem, setCells, setIn])
  (refine vw_cond (t := true) rfl (fun _ => ?_) (fun h => nomatch h))
  (refine vw_go rfl ?_; simp only [go_sem, setCells, setIn])
  (refine ⟨_, _, call_bs [0, 0, 0] [.back, .ro, .ro] [(0, 0, ⟨false, 1, L.map sRow, []⟩)] [(sortL L).map sRow] (rest := [.c (.int .i64 0), .c (.int .i64 L.length)]) Tryz.func131 (runs_131 L hl hd) rfl rfl rfl rfl rfl rfl rfl rfl (by simp [VV.cells, ev, tabE_cons, sRow_r1, sRow_comp, sRow_clean]) (by simp [tabS_cons, sRow_r1, sRow_comp, sRow_clean]) (by simp) rfl rfl (by simp [rcells, RT.cells, sRow_r1, sRow_comp, sRow_clean]) rfl rfl (by simp [clean_map, sRow_r1, sRow_comp, sRow_clean]) rfl rfl, ?_⟩)
  simp only [runH, runX, go_sem, setCells, setIn]
  refine vw_ret ?_
  repeat (first | refine r_then ?_ | refine r_block ?_)
  refine e_ret ?_
  exact (ret_b rfl rfl (by simp [RB]) rfl rfl ⟨⟨by simp, _, rfl, rfl, rfl, rfl⟩, trivial⟩)

theorem runs_100 (L : List ByteArray) (hl : L.length ≤ 12) (hd : L.Nodup) :
    Runs Tryz.prog 100 [.one (.v (.list true 1 (L.map sRow)))] [] [(0, ⟨false, 1, (sortL L).map sRow, []⟩)] := by
  refine runs_tabB (tab := [(0, .al 0 [] 0 1 0 L.length)]) (rts := [(0, some ⟨false, 1, L.map sRow, []⟩)]) (n := 11) (k := 1) Tryz.func100 rfl rfl (by simp) rfl (fun t => ?_) rfl ?_
  · rcases t with _ | t <;> simp [envOf, rvv, RT.vv, CT.vv, cvv, tabE_cons, tabE_nil, rcells, RT.cells]
  have w0 : IntKind.wrap .u64 (L.length:Int) = (L.length : Int) := by
    unfold IntKind.wrap
    simp only [IntKind.bits, IntKind.signed, Bool.false_and, Bool.false_eq_true, if_false]
    omega
  (refine vw_go rfl ?_; simp only [go_sem, setCells, setIn])
  (refine vw_last rfl ?_; simp only [w0, go_sem, setCells, setIn])
  (refine ⟨_, _, call_rd [0] Tryz.func116 (runs_116 L.length (by omega)) rfl rfl rfl rfl rfl rfl rfl rfl rfl rfl rfl rfl rfl, ?_⟩)
  simp only [runH, runX, go_sem, setCells, setIn]
  (refine ⟨_, _, call_bs [0, 0, 0, 0] [.back, .ro, .ro, .ro] [(0, 0, ⟨false, 1, L.map sRow, []⟩)] [(sortL L).map sRow] (rest := [.c (.int .i64 0), .c (.int .i64 L.length), .c (.int .i64 (Lib.bitLen L.length))]) Tryz.func115 (runs_115 L hl hd (Lib.bitLen L.length)) rfl rfl rfl rfl rfl rfl rfl rfl (by simp [VV.cells, ev, tabE_cons, lit, sRow_r1, sRow_comp, sRow_clean]) (by simp [tabS_cons, lit, sRow_r1, sRow_comp, sRow_clean]) (by simp) rfl rfl (by simp [rcells, RT.cells, lit, sRow_r1, sRow_comp, sRow_clean]) rfl rfl (by simp [clean_map, lit, sRow_r1, sRow_comp, sRow_clean]) rfl rfl, ?_⟩)
  simp only [runH, runX, go_sem, setCells, setIn]
  exact e_normal (ret_b rfl rfl (by simp [RB]) rfl rfl ⟨⟨by simp, _, rfl, rfl, rfl, rfl⟩, trivial⟩)
end Go.Proofs.YtoenfbbadfcfpaaGreatDoor
namespace Go.Proofs.YtoenfbbadfcfpaaGreatDoor
open Go.VM Go
set_option maxRecDepth 100000
set_option linter.unusedSimpArgs false
set_option linter.unusedVariables false
attribute [-go_sem] runW_cons
attribute [local congr] vw_congr runV_congr runH_congr runW_congr runX_congr stuckV_congr stuckX_congr

def namesL (p : ByteArray) (l : List It3) : List ByteArray := (l.filter (fun x => decide ((splitF x.1).1 = p))).map (fun x => (splitF x.1).2.1)
def dirsL (p : ByteArray) (l : List It3) : List ByteArray := (l.filter (fun x => decide ((splitF x.1).1 = p) && x.2.1)).map (fun x => (splitF x.1).2.1)
def markS (D : List ByteArray) (s : ByteArray) : ByteArray := if (D.any (fun x => decide (s = x))) = true then s ++ ⟨#[47]⟩ else s
def listI (l : List It3) (p : ByteArray) : ByteArray := joinS ⟨#[32]⟩ ((sortL (namesL p l)).map (markS (dirsL p l)))
theorem namesL_take {p : ByteArray} {l : List It3} {i : Nat} {x : It3} (hx : l[i]? = some x) : namesL p (l.take (i + 1)) = namesL p (l.take i) ++ (if (splitF x.1).1 = p then [(splitF x.1).2.1] else []) := by
  unfold namesL
  rw [List.take_add_one, hx, List.filter_append, List.map_append]
  by_cases h : (splitF x.1).1 = p <;> simp [h]
theorem dirsL_take {p : ByteArray} {l : List It3} {i : Nat} {x : It3} (hx : l[i]? = some x) : dirsL p (l.take (i + 1)) = dirsL p (l.take i) ++ (if (splitF x.1).1 = p ∧ x.2.1 = true then [(splitF x.1).2.1] else []) := by
  unfold dirsL
  rw [List.take_add_one, hx, List.filter_append, List.map_append]
  by_cases h : (splitF x.1).1 = p <;> cases h2 : x.2.1 <;> simp [h, h2]
theorem namesL_len (p : ByteArray) (l : List It3) : (namesL p l).length ≤ l.length := by
  unfold namesL; rw [List.length_map]; exact List.length_filter_le _ _
theorem dirsL_len (p : ByteArray) (l : List It3) : (dirsL p l).length ≤ l.length := by
  unfold dirsL; rw [List.length_map]; exact List.length_filter_le _ _

theorem sort_len (N : List ByteArray) : (sortL N).length = N.length := by
  have : ∀ (l acc : List ByteArray), (l.foldl insG acc).length = acc.length + l.length := by
    intro l
    induction l with
    | nil => intro acc; simp
    | cons x l ih => intro acc; rw [List.foldl_cons, ih, ins_len, List.length_cons]; omega
  unfold sortL
  rw [this, List.length_nil, Nat.zero_add]
theorem join_le (l : List ByteArray) (sep : ByteArray) (m : Nat) (hm : ∀ u ∈ l, u.size ≤ m) (hs : sep.size ≤ m) : (Lib.join (l.map (·.data.toList)) sep.data.toList).length ≤ 2 * m * l.length := by
  have ht : ∀ r : List ByteArray, (∀ u ∈ r, u.size ≤ m) → (Lib.joinTail sep.data.toList (r.map (·.data.toList))).length ≤ 2 * m * r.length := by
    intro r
    induction r with
    | nil => intro _; exact Nat.zero_le _
    | cons x r ih =>
      intro h
      have h1 := ih (fun u hu => h u (by simp [hu]))
      have h2 := h x (by simp)
      unfold Lib.joinTail at h1 ⊢
      rw [List.map_cons, List.map_cons, List.flatten_cons, List.length_append, List.length_append, bs_len, bs_len, List.length_cons, Nat.mul_succ]
      omega
  cases l with
  | nil => exact Nat.zero_le _
  | cons x r =>
    have h1 := ht r (fun u hu => hm u (by simp [hu]))
    have h2 := hm x (by simp)
    rw [List.map_cons, Lib.join_cons, List.length_append, bs_len, List.length_cons, Nat.mul_succ]
    omega
theorem big17 {x : Nat} (h : x ≤ 1000) : ¬ x * (16 + 1) > bigRow := by
  have h1 : x * (16 + 1) ≤ 1000 * 17 := Nat.mul_le_mul_right _ h
  have h2 : 1000 * 17 ≤ bigRow := by decide
  exact Nat.not_lt.2 (Nat.le_trans h1 h2)
set_option maxHeartbeats 2000000 in
theorem runs_75 (l : List It3) (hl : l.length ≤ 11) (hb : ∀ x ∈ l, x.1.size ≤ 100) (p : ByteArray) (hp : p.size ≤ 2 ^ 19) (hnd : (namesL p l).Nodup) :
    Runs Tryz.prog 75 [.one (.v (.list false 3 (l.map iRow))), .one (.v (.str p))] [.one (.v (.str (listI l p)))] [] := by
  refine runs_tab (tab := [(0, .c (.list false 3 (l.map iRow))), (1, .c (.str p))]) (rts := []) (n := 63) (k := 2) Tryz.func75 rfl rfl (by simp) rfl (fun t => ?_) rfl ?_
  · rcases t with _ | _ | t <;> rfl
  (refine vw_go rfl ?_; simp only [go_sem, setCells, setIn])
  (refine vw_go rfl ?_; simp only [go_sem, setCells, setIn])
  (refine vw_go rfl ?_; simp only [go_sem, setCells, setIn])
  refine vw_seq ?_
  (refine vw_go rfl ?_; simp only [go_sem, setCells, setIn])
  refine vw_block ?_
  refine vw_loop_tab (α := Nat × List ByteArray × List ByteArray) (fun x => l.length - x.1) (fun x => ⟨tabE [(0, .c (.list false 3 (l.map iRow))), (1, .c (.str p)), (5, .al 2 [] 0 1 0 x.2.1.length), (6, .al 3 [] 0 1 0 x.2.2.length), (16, .c (.list false 3 (l.map iRow))), (17, .c (.int .i64 l.length)), (18, .c (.int .i64 x.1))],
      tabS [(2, some ⟨false, 1, x.2.1.map sRow, []⟩), (3, some ⟨false, 1, x.2.2.map sRow, []⟩)], 4⟩)
    (fun x => x.1 ≤ l.length ∧ x.2.1 = namesL p (l.take x.1) ∧ x.2.2 = dirsL p (l.take x.1)) (x := (0, [], [])) ?round ⟨Nat.zero_le _, rfl, rfl⟩ ?hn
  case hn =>
    (refine norm_to [(65538, 2), (131074, 3)] rfl ?_ ?_ <;> simp only [go_sem])
    all_goals rfl
  rintro ⟨i, N, D⟩ ⟨hi, hN, hD⟩
  simp only at hi hN hD
  have lN : N.length ≤ 11 := by rw [hN]; exact Nat.le_trans (namesL_len _ _) (by rw [List.length_take]; omega)
  have lD : D.length ≤ 11 := by rw [hD]; exact Nat.le_trans (dirsL_len _ _) (by rw [List.length_take]; omega)
  have bN : List.take N.length (N.map sRow) = N.map sRow := List.take_of_length_le (by simp)
  have bD : List.take D.length (D.map sRow) = D.map sRow := List.take_of_length_le (by simp)
  by_cases hc : (i : Int) < l.length
  · have hin : i < l.length := by omega
    obtain ⟨x, hx⟩ : ∃ x, l[i]? = some x := ⟨_, List.getElem?_eq_getElem hin⟩
    have hxs := hb x (List.mem_of_getElem? hx)
    have d0 : (0:Int) ≤ (i : Int) := by omega
    have w3 : IntKind.wrap .i64 ((i:Int) + 1) = ((i + 1 : Nat) : Int) := by rw [wrap_i64 (by omega) (by omega)]; rfl
    have rS := runs_55 x.1 (by omega)
    have eN := namesL_take (p := p) hx
    have eD := dirsL_take (p := p) hx
    generalize splitF x.1 = sp at rS eN eD
    obtain ⟨up, nm, ok⟩ := sp
    simp only at rS eN eD
    rw [← hN] at eN
    rw [← hD] at eD
    have B1 : ¬ (N.length + 1 + 1) * (16 + 1) > bigRow := big17 (by omega)
    have B2 : ¬ (D.length + 1 + 1) * (16 + 1) > bigRow := big17 (by omega)
    have e4 : N.map sRow ++ [[.str nm]] = (N ++ [nm]).map sRow := by simp [sRow]
    have e5 : D.map sRow ++ [[.str nm]] = (D ++ [nm]).map sRow := by simp [sRow]
    have e6 : N.length + 1 = (N ++ [nm]).length := by simp
    have e7 : D.length + 1 = (D ++ [nm]).length := by simp
    (refine vw_go rfl ?_; simp only [hc, go_sem, setCells, setIn])
    refine vw_seq ?_
    (refine vw_cond (t := true) rfl (fun _ => ?_) (fun h => nomatch h))
    refine vw_skip (n_then ?_)
    refine vw_seq ?_
    refine vw_block ?_
    (refine vw_go rfl ?_; simp only [d0, hc, hin, Int.toNat_natCast, getD_map_of hx, iRow, go_sem, setCells, setIn])
    (refine vw_go rfl ?_; simp only [go_sem, setCells, setIn])
    (refine ⟨_, _, call_rd [0] Tryz.func55 (rS) rfl rfl rfl rfl rfl rfl rfl rfl rfl rfl rfl rfl rfl, ?_⟩)
    simp only [runH, runX, go_sem, setCells, setIn]
    by_cases he : up = p
    · rw [if_pos he] at eN
      refine vw_seq ?_
      (refine vw_go rfl ?_; simp only [he, go_sem, setCells, setIn])
      (refine vw_cond (t := false) rfl (fun h => nomatch h) (fun _ => ?_))
      refine vw_skip (n_then ?_)
      (refine vw_go rfl ?_; simp only [B1, bN, List.drop_length, range1, List.replicate_succ, List.replicate_zero, List.flatten_cons, List.flatten_nil, List.range_zero, gt_iff_lt, go_sem, setCells, setIn])
      rw [e4, e6]
      cases hd : x.2.1
      · rw [hd, if_neg (by simp), List.append_nil] at eD
        (refine vw_go rfl ?_; simp only [hd, go_sem, setCells, setIn])
        (refine vw_cond (t := false) rfl (fun h => nomatch h) (fun _ => ?_))
        refine vw_skip (n_block (n_then ?_))
        (refine vw_last rfl ?_; simp only [w3, go_sem, setCells, setIn])
        refine (n_then ?_)
        refine ⟨(i + 1, N ++ [nm], D), by simp only; omega, ⟨by simp only; omega, eN.symm, eD.symm⟩, ?_⟩
        (refine norm_to [(265220, 2), (3, 3)] rfl ?_ ?_ <;> simp only [go_sem])
      · rw [hd, if_pos ⟨he, rfl⟩] at eD
        (refine vw_go rfl ?_; simp only [hd, go_sem, setCells, setIn])
        (refine vw_cond (t := true) rfl (fun _ => ?_) (fun h => nomatch h))
        (refine vw_last rfl ?_; simp only [B2, bD, List.drop_length, range1, List.replicate_succ, List.replicate_zero, List.flatten_cons, List.flatten_nil, List.range_zero, gt_iff_lt, go_sem, setCells, setIn])
        rw [e5, e7]
        refine (n_block (n_then ?_))
        (refine vw_last rfl ?_; simp only [w3, go_sem, setCells, setIn])
        refine (n_then ?_)
        refine ⟨(i + 1, N ++ [nm], D ++ [nm]), by simp only; omega, ⟨by simp only; omega, eN.symm, eD.symm⟩, ?_⟩
        (refine norm_to [(265220, 2), (396292, 3)] rfl ?_ ?_ <;> simp only [go_sem])
    · rw [if_neg he, List.append_nil] at eN
      rw [if_neg (fun h => he h.1), List.append_nil] at eD
      refine vw_seq ?_
      (refine vw_go rfl ?_; simp only [he, go_sem, setCells, setIn])
      (refine vw_cond (t := true) rfl (fun _ => ?_) (fun h => nomatch h))
      refine vw_exit (x_then (x_block (n_then ?_)))
      (refine vw_last rfl ?_; simp only [w3, go_sem, setCells, setIn])
      refine (n_then ?_)
      refine ⟨(i + 1, N, D), by simp only; omega, ⟨by simp only; omega, eN.symm, eD.symm⟩, ?_⟩
      (refine norm_to [(2, 2), (3, 3)] rfl ?_ ?_ <;> simp only [go_sem])
  rw [List.take_of_length_le (by omega)] at hN hD
  rw [← hN] at hnd
  have hNz : ∀ u ∈ N, u.size ≤ 100 := fun u hu => by
    rw [hN] at hu
    unfold namesL at hu
    obtain ⟨x, hx, rfl⟩ := List.mem_map.1 hu
    exact Nat.le_trans (splitF_size x.1).2 (hb x ((List.mem_filter.1 hx).1))
  unfold listI
  rw [← hN, ← hD]
  clear hN hD
  (refine vw_go rfl ?_; simp only [hc, go_sem, setCells, setIn])
  refine vw_seq ?_
  (refine vw_cond (t := false) rfl (fun h => nomatch h) (fun _ => ?_))
  refine vw_exit (x_then (x_then (x_block (n_then ?_))))
  (refine vw_go rfl ?_; simp only [go_sem, setCells, setIn])
  (refine ⟨_, _, call_bs [0] [.back] [(2, 0, ⟨false, 1, N.map sRow, []⟩)] [(sortL N).map sRow] (rest := []) Tryz.func100 (runs_100 N (by omega) hnd) rfl rfl rfl rfl rfl rfl rfl rfl (by simp [VV.cells, ev, tabE_cons, iRow_r1, iRow_clean, sRow_r1, sRow_comp, sRow_clean]) (by simp [tabS_cons, iRow_r1, iRow_clean, sRow_r1, sRow_comp, sRow_clean]) (by simp) rfl rfl (by simp [rcells, RT.cells, iRow_r1, iRow_clean, sRow_r1, sRow_comp, sRow_clean]) rfl rfl (by simp [clean_map, iRow_r1, iRow_clean, sRow_r1, sRow_comp, sRow_clean]) rfl rfl, ?_⟩)
  simp only [runH, runX, go_sem, setCells, setIn]
  have hSl : (sortL N).length = N.length := sort_len N
  rw [← hSl]
  have lS : (sortL N).length ≤ 11 := by omega
  have hSz : ∀ u ∈ sortL N, u.size ≤ 100 := fun u hu => by
    have := ((sort_asc N [] (by simp [Asc]) hnd (fun x _ h => nomatch h)).2 u).1 hu
    rcases this with h | h
    · exact hNz u h
    · cases h
  generalize sortL N = S at hSl lS hSz ⊢
  clear hnd lN bN hSl
  refine vw_seq ?_
  (refine vw_go rfl ?_; simp only [go_sem, setCells, setIn])
  refine vw_block ?_
  refine vw_loop_tab (α := Nat) (fun x => S.length - x) (fun x => ⟨tabE [(5, .al 2 [] 0 1 0 S.length), (6, .al 3 [] 0 1 0 D.length), (45, .al 2 [] 0 1 0 S.length), (46, .c (.int .i64 S.length)), (47, .c (.int .i64 x))],
      tabS [(2, some ⟨false, 1, ((S.take x).map (markS D) ++ S.drop x).map sRow, [[]]⟩), (3, some ⟨false, 1, D.map sRow, []⟩)], 4⟩)
    (fun x => x ≤ S.length) (x := 0) ?round2 (Nat.zero_le _) ?hn2
  case hn2 =>
    (refine norm_to [(2, 2), (3, 3)] rfl ?_ ?_ <;> simp only [go_sem])
    all_goals rfl
  rintro k hk
  by_cases hc : (k : Int) < S.length
  · have hkn : k < S.length := by omega
    obtain ⟨s, hs⟩ : ∃ s, S[k]? = some s := ⟨_, List.getElem?_eq_getElem hkn⟩
    have d0 : (0:Int) ≤ (k : Int) := by omega
    have w3 : IntKind.wrap .i64 ((k:Int) + 1) = ((k + 1 : Nat) : Int) := by rw [wrap_i64 (by omega) (by omega)]; rfl
    have rC := runs_101 D (by omega) s
    have hmk : markS D s = if (D.any (fun x => decide (s = x))) = true then s ++ ⟨#[47]⟩ else s := rfl
    have hst : (S.take (k + 1)).map (markS D) ++ S.drop (k + 1) = ((S.take k).map (markS D) ++ S.drop k).set k (markS D s) := by
      have e : k - (List.map (markS D) (S.take k)).length = 0 := by simp; omega
      rw [List.set_append_right _ _ (by simp; omega), e, List.take_add_one, hs, drop_of hs, List.map_append]
      simp
    have hat : ((S.take k).map (markS D) ++ S.drop k)[k]? = some s := by
      rw [List.getElem?_append_right (by simp; omega)]
      simp [List.length_take, Nat.min_eq_left hk, hs]
    have hWl : ((S.take k).map (markS D) ++ S.drop k).length = S.length := by simp; omega
    have hend : ((S.take (k + 1)).map (markS D) ++ S.drop (k + 1)).map sRow = (((S.take k).map (markS D) ++ S.drop k).map sRow).set k [.str (markS D s)] := by
      rw [hst, List.map_set, sRow]
    have bD : List.take D.length (D.map sRow) = D.map sRow := List.take_of_length_le (by simp)
    (refine vw_go rfl ?_; simp only [hc, go_sem, setCells, setIn])
    refine vw_seq ?_
    (refine vw_cond (t := true) rfl (fun _ => ?_) (fun h => nomatch h))
    refine vw_skip (n_then ?_)
    refine vw_seq ?_
    refine vw_block ?_
    generalize (S.take k).map (markS D) ++ S.drop k = W at hat hWl hend ⊢
    generalize D.any (fun x => decide (s = x)) = b at rC hmk
    have hkW : k < W.length := by omega
    (refine vw_go rfl ?_; simp only [d0, hc, hkW, List.length_map, Int.toNat_natCast, getD_map_of hat, sRow, go_sem, setCells, setIn])
    (refine vw_go rfl ?_; simp only [bD, go_sem, setCells, setIn])
    (refine ⟨_, _, call_rx [0, 0] Tryz.func101 (rC) rfl rfl rfl rfl rfl rfl rfl (by simp [lendAll, lendC, seek, fresh, nav, rcells, RT.cells, VV.cells, tabE_cons, tabS_cons, ev, take_map_len, iRow_r1, iRow_clean, sRow_r1, sRow_comp, sRow_clean, bD]) rfl (by simp [rcells, RT.cells, CT.clean, T.clean, iRow_r1, iRow_clean, sRow_r1, sRow_comp, sRow_clean, bD]) rfl rfl, ?_⟩)
    cases b
    · rw [if_neg (by decide)] at hmk
      rw [hmk] at hend
      have hsame : (W.map sRow).set k [.str s] = W.map sRow := by
        refine List.ext_getElem? fun j => ?_
        rw [List.getElem?_set]
        split
        · rename_i hj
          subst hj
          rw [List.getElem?_map, hat, if_pos (by simpa using hkW)]
          rfl
        · rfl
      rw [hsame] at hend
      simp only [runH, runX, go_sem, setCells, setIn]
      (refine vw_cond (t := false) rfl (fun h => nomatch h) (fun _ => ?_))
      refine vw_skip (n_block (n_then ?_))
      (refine vw_last rfl ?_; simp only [w3, go_sem, setCells, setIn])
      refine (n_then ?_)
      refine ⟨k + 1, by omega, by omega, ?_⟩
      rw [hend]
      (refine norm_to [(2, 2), (3, 3)] rfl ?_ ?_ <;> simp only [go_sem])
    · rw [if_pos rfl] at hmk
      rw [hmk] at hend
      simp only [runH, runX, go_sem, setCells, setIn]
      (refine vw_cond (t := true) rfl (fun _ => ?_) (fun h => nomatch h))
      have zc : s.size + 1 < 2 ^ 60 := by have := hSz s (List.mem_of_getElem? hs); omega
      have zd : (⟨#[47]⟩ : ByteArray).size = 1 := rfl
      (refine vw_last rfl ?_; simp only [d0, hc, hkW, zc, zd, List.length_map, Int.toNat_natCast, getD_map_of hat, sRow, go_sem, setCells, setIn])
      refine (n_block (n_then ?_))
      (refine vw_last rfl ?_; simp only [w3, go_sem, setCells, setIn])
      refine (n_then ?_)
      refine ⟨k + 1, by omega, by omega, ?_⟩
      rw [hend]
      (refine norm_to [(2, 2), (3, 3)] rfl ?_ ?_ <;> simp only [go_sem])
  obtain rfl : k = S.length := by omega
  rw [List.take_length, List.drop_length, List.append_nil]
  (refine vw_go rfl ?_; simp only [hc, go_sem, setCells, setIn])
  refine vw_seq ?_
  (refine vw_cond (t := false) rfl (fun h => nomatch h) (fun _ => ?_))
  refine vw_exit (x_then (x_then (x_block (n_then ?_))))
  have hjl := join_le (S.map (markS D)) (⟨#[32]⟩ : ByteArray) 200 (fun u hu => by
    obtain ⟨v, hv, rfl⟩ := List.mem_map.1 hu
    have h1 := hSz v hv
    unfold markS
    split
    · rw [add_size]; have : (⟨#[47]⟩ : ByteArray).size = 1 := rfl; omega
    · omega) (by decide)
  have rJ := runs_102 (S.map (markS D)) ⟨#[32]⟩ (by simp; omega) (by
    refine Nat.le_trans hjl ?_
    rw [List.length_map]; omega)
  have lM : (S.map (markS D)).length = S.length := by simp
  rw [← lM]
  generalize S.map (markS D) = M at *
  have bM : List.take M.length (M.map sRow) = M.map sRow := List.take_of_length_le (by simp)
  (refine vw_go rfl ?_; simp only [bM, go_sem, setCells, setIn])
  (refine ⟨_, _, call_rx [0, 0] Tryz.func102 (rJ) rfl rfl rfl rfl rfl rfl rfl (by simp [lendAll, lendC, seek, fresh, nav, rcells, RT.cells, VV.cells, tabE_cons, tabS_cons, ev, take_map_len, lit, iRow_r1, iRow_clean, sRow_r1, sRow_comp, sRow_clean, bM]) rfl (by simp [rcells, RT.cells, CT.clean, T.clean, lit, iRow_r1, iRow_clean, sRow_r1, sRow_comp, sRow_clean, bM]) rfl rfl, ?_⟩)
  simp only [runH, runX, bM, go_sem, setCells, setIn]
  exact vw_ret (e_ret (ret_of rfl rfl (by simp [RB]) rfl rfl))
end Go.Proofs.YtoenfbbadfcfpaaGreatDoor
namespace Go.Proofs.YtoenfbbadfcfpaaGreatDoor
open Go.VM Go
set_option linter.unusedSimpArgs false
set_option linter.unusedVariables false
theorem split_same {s t : ByteArray} (hs : (splitF s).2.2 = true) (ht : (splitF t).2.2 = true) (h1 : (splitF s).1 = (splitF t).1) (h2 : (splitF s).2.1 = (splitF t).2.1) : s = t := by
  have e1 := (split_names hs).2.1
  have e2 := (split_names ht).2.1
  rw [h1, h2] at e1
  have hs0 : ¬ s = ⟨#[]⟩ := fun e => by rw [splitF_nil e] at hs; cases hs
  have ht0 : ¬ t = ⟨#[]⟩ := fun e => by rw [splitF_nil e] at ht; cases ht
  have e3 : namesZ s = namesZ t := by rw [e1, e2]
  unfold namesZ at e3
  rw [if_neg hs0, if_neg ht0] at e3
  rw [← names_join s, ← names_join t, e3]
theorem items_nodup {l : List It3} (hok : itemsOk l = true) : l.Pairwise (fun x y => x.1 ≠ y.1) := by
  rw [List.pairwise_iff_getElem]
  intro i j hi hj hij e
  have h := (itemsOk_at hok).2
  have h1 := (h i _ (List.getElem?_eq_getElem hi)).2.2.2.1
  have h2 := (h j _ (List.getElem?_eq_getElem hj)).2.2.2.1
  rw [e] at h1
  rw [h1] at h2
  omega
theorem items_split {l : List It3} (hok : itemsOk l = true) {x : It3} (hx : x ∈ l) : (splitF x.1).2.2 = true := by
  obtain ⟨j, hj⟩ := List.getElem?_of_mem hx
  exact ((itemsOk_at hok).2 j x hj).1
theorem namesL_nodup {l : List It3} (hok : itemsOk l = true) (p : ByteArray) : (namesL p l).Nodup := by
  unfold namesL
  rw [List.Nodup, List.pairwise_map]
  have h := (items_nodup hok).filter (fun x : It3 => decide ((splitF x.1).1 = p))
  refine h.imp_of_mem (fun {x y} hx hy hne he => hne ?_)
  obtain ⟨hx, px⟩ := List.mem_filter.1 hx
  obtain ⟨hy, py⟩ := List.mem_filter.1 hy
  simp only [decide_eq_true_eq] at px py
  exact split_same (items_split hok hx) (items_split hok hy) (by rw [px, py]) he
/-- What stands in a folder's node. -/
def GoodQ (l : List It3) (p : ByteArray) (q : ByteArray × Int) : Prop := ∃ (j : Nat) (x : It3), q.2 = (j : Int) ∧ l[j]? = some x ∧ (splitF x.1).1 = p ∧ (splitF x.1).2.1 = q.1
theorem nodeG_sort {l : List It3} {p : ByteArray} : ∀ (r : List It3) (i : Nat) (n : NodeV) (N : List ByteArray) (ps : List (ByteArray × Int)), (∀ j x, r[j]? = some x → l[i + j]? = some x) → (N ++ namesL p r).Nodup → n.names = ps.map (·.1) → n.kids = ps.map (·.2) → n.names = sortL N → (∀ q ∈ ps, GoodQ l p q) →
    ∃ ps' : List (ByteArray × Int), (nodeG p r i n).names = ps'.map (·.1) ∧ (nodeG p r i n).kids = ps'.map (·.2) ∧ (nodeG p r i n).names = sortL (N ++ namesL p r) ∧ ∀ q ∈ ps', GoodQ l p q
  | [], i, n, N, ps, _, _, h1, h2, h3, h4 => ⟨ps, h1, h2, by rw [nodeG]; simpa [namesL] using h3, h4⟩
  | x :: r, i, n, N, ps, hr, hd, h1, h2, h3, h4 => by
    have hx : l[i]? = some x := by have := hr 0 x rfl; simpa using this
    have hr' : ∀ j y, r[j]? = some y → l[i + 1 + j]? = some y := fun j y hy => by
      have := hr (j + 1) y (by simpa using hy)
      rw [show i + 1 + j = i + (j + 1) from by omega]; exact this
    rw [nodeG]
    by_cases hp : (splitF x.1).1 = p
    · have eN : namesL p (x :: r) = (splitF x.1).2.1 :: namesL p r := by simp [namesL, hp]
      rw [eN] at hd ⊢
      rw [if_pos hp]
      generalize hs : (splitF x.1).2.1 = s at hd ⊢
      have hdN : N.Nodup := (List.nodup_append.1 hd).1
      have hsN : s ∉ N := fun h => (List.nodup_append.1 hd).2.2 s h s (by simp) rfl
      obtain ⟨ha, hm⟩ := sort_asc N [] (by simp [Asc]) hdN (fun x _ h => nomatch h)
      have hsS : s ∉ sortL N := fun h => by
        rcases (hm s).1 h with h | h
        · exact hsN h
        · cases h
      obtain ⟨A, B, hAB, hA, hB, _⟩ := ins_split (L := sortL N) (s := s) ha hsS
      have hns : n.names = A ++ B := by rw [h3, hAB]
      have hps : ps = ps.take A.length ++ ps.drop A.length := (List.take_append_drop _ _).symm
      have eA : (ps.take A.length).map (·.1) = A := by
        rw [List.map_take, ← h1, hns, List.take_left]
      have eB : (ps.drop A.length).map (·.1) = B := by
        rw [List.map_drop, ← h1, hns, List.drop_left]
      have hks : n.kids = (ps.take A.length).map (·.2) ++ (ps.drop A.length).map (·.2) := by
        rw [h2, ← List.map_append, List.take_append_drop]
      have hput := kidPut_at (n := n) (s := s) (k := (i : Int)) hns hks (by rw [← eA]; simp) (by rw [← eB]; simp) hA hB
      rw [hput]
      have := nodeG_sort r (i + 1) ⟨n.dir, A ++ s :: B, (ps.take A.length).map (·.2) ++ (i : Int) :: (ps.drop A.length).map (·.2), n.data⟩ (N ++ [s]) (ps.take A.length ++ (s, (i : Int)) :: ps.drop A.length) hr' (by rw [List.append_assoc]; exact hd)
        (by simp only [List.map_append, List.map_cons, eA, eB]) (by simp only [List.map_append, List.map_cons])
        (by
          show A ++ s :: B = _
          unfold sortL
          rw [List.foldl_append]
          show _ = insG (sortL N) s
          rw [hAB, ins_of hA hB])
        (fun q hq => by
          rcases List.mem_append.1 hq with hq | hq
          · exact h4 q (List.mem_of_mem_take hq)
          · rcases List.mem_cons.1 hq with rfl | hq
            · exact ⟨i, x, rfl, hx, hp, hs⟩
            · exact h4 q (List.mem_of_mem_drop hq))
      rw [List.append_assoc] at this
      exact this
    · have eN : namesL p (x :: r) = namesL p r := by simp [namesL, hp]
      rw [eN] at hd ⊢
      rw [if_neg hp]
      exact nodeG_sort r (i + 1) n N ps hr' hd h1 h2 h3 h4
theorem mark_dir {l : List It3} (hok : itemsOk l = true) {p : ByteArray} {q : ByteArray × Int} (h : GoodQ l p q) : (dirsL p l).any (fun x => decide (q.1 = x)) = dirAt l q.2.toNat := by
  obtain ⟨j, x, hj, hx, hp, hn⟩ := h
  rw [hj, Int.toNat_natCast]
  have hd : dirAt l j = x.2.1 := by unfold dirAt; rw [hx]
  rw [hd]
  cases hb : x.2.1
  · rw [List.any_eq_false]
    intro u hu
    unfold dirsL at hu
    obtain ⟨y, hy, rfl⟩ := List.mem_map.1 hu
    obtain ⟨hy, hyp⟩ := List.mem_filter.1 hy
    simp only [Bool.and_eq_true, decide_eq_true_eq] at hyp ⊢
    intro e
    have hxm := List.mem_of_getElem? hx
    have exy : x.1 = y.1 := split_same (items_split hok hxm) (items_split hok hy) (by rw [hp, hyp.1]) (by rw [hn, e])
    obtain ⟨k, hk⟩ := List.getElem?_of_mem hy
    have h1 := ((itemsOk_at hok).2 j x hx).2.2.2.1
    have h2 := ((itemsOk_at hok).2 k y hk).2.2.2.1
    rw [exy, h2] at h1
    have : k = j := by omega
    subst this
    rw [hx] at hk
    cases hk
    rw [hb] at hyp
    cases hyp.2
  · rw [List.any_eq_true]
    refine ⟨q.1, ?_, by simp⟩
    unfold dirsL
    exact List.mem_map.2 ⟨x, List.mem_filter.2 ⟨List.mem_of_getElem? hx, by simp [hp, hb]⟩, hn⟩
theorem textG_tail {l : List It3} (D : List ByteArray) : ∀ (ps : List (ByteArray × Int)) (acc : ByteArray), (∀ q ∈ ps, D.any (fun x => decide (q.1 = x)) = dirAt l q.2.toNat) →
    (textG l (ps.map (·.1)) (ps.map (·.2)) true acc).data.toList = acc.data.toList ++ Lib.joinTail [32] ((ps.map (fun q => markS D q.1)).map (·.data.toList))
  | [], acc, _ => by simp [textG, Lib.joinTail]
  | q :: ps, acc, h => by
    rw [List.map_cons, List.map_cons, textG, textG_tail D ps _ (fun q hq => h q (by simp [hq]))]
    have hq := h q (by simp)
    rw [← hq]
    unfold Lib.joinTail
    rw [List.map_cons, List.map_cons, List.map_cons, List.flatten_cons]
    unfold markS
    cases hb : D.any (fun x => decide (q.1 = x))
    · simp [add_bytes, hb]
    · simp [add_bytes, hb]
theorem textG_all {l : List It3} (D : List ByteArray) (ps : List (ByteArray × Int)) (h : ∀ q ∈ ps, D.any (fun x => decide (q.1 = x)) = dirAt l q.2.toNat) :
    textG l (ps.map (·.1)) (ps.map (·.2)) false ⟨#[]⟩ = joinS ⟨#[32]⟩ ((ps.map (·.1)).map (markS D)) := by
  refine ba_eq ?_
  unfold joinS
  cases ps with
  | nil => rfl
  | cons q ps =>
    have hq := h q (by simp)
    rw [List.map_cons, List.map_cons, textG, textG_tail D ps _ (fun q hq => h q (by simp [hq])), List.map_cons, List.map_cons, Lib.join_cons, ← hq]
    simp only [List.map_map]
    unfold markS
    cases hb : D.any (fun x => decide (q.1 = x))
    · simp [add_bytes, hb]; rfl
    · simp [add_bytes, hb]; rfl
theorem listL_listI {l : List It3} (hok : itemsOk l = true) (p : ByteArray) : listL l p = listI l p := by
  obtain ⟨ps, h1, h2, h3, h4⟩ := nodeG_sort (l := l) (p := p) l 0 ⟨true, [], [], ⟨#[]⟩⟩ [] [] (fun j x h => by rw [Nat.zero_add]; exact h) (by simpa using namesL_nodup hok p) rfl rfl rfl (fun q h => nomatch h)
  unfold listL listI
  rw [h1, h2, textG_all (dirsL p l) ps (fun q hq => mark_dir hok (h4 q hq)), ← h1, h3, List.nil_append]
end Go.Proofs.YtoenfbbadfcfpaaGreatDoor
