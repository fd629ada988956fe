/- Sectors and volumes of both. -/
import Derived.Test.YtppbonbghmdhhaaGreatPFFtl
namespace Go.Proofs.YtppbonbghmdhhaaGreat
open Go.VM Go
set_option maxRecDepth 100000
set_option linter.unusedSimpArgs false
set_option linter.unusedVariables false
attribute [local congr] vw_congr runV_congr runH_congr runW_congr runX_congr

/-- What a sector has. -/
def secF (f : FtlV) (n : Nat) : ByteArray := if f.map.getD n (-1) < 0 then ⟨#[]⟩ else (recReadS (f.pages.getD (f.map.getD n (-1)).toNat ⟨#[]⟩)).1.2.2
structure FtlV.right (f : FtlV) : Prop where
  small : f.small
  len : f.map.length = 26
  at_ : ∀ (n : Nat) m, f.map[n]? = some m → m = -1 ∨ ∃ (j : Nat) (u : ByteArray), m = (j : Int) ∧ f.pages[j]? = some u ∧ (recReadS u).2 = true ∧ (recReadS u).1.1 = n
theorem right_of {f : FtlV} (hs : f.small) (h : ftlOk f = true) : f.right := by
  simp only [ftlOk, Bool.and_eq_true, decide_eq_true_eq] at h
  obtain ⟨m1, m2, m3⟩ := mount_inv f.pages
  rw [← h.2.1] at m1 m3
  exact ⟨hs, m1, m3⟩
theorem secF_size {f : FtlV} (hf : f.right) (n : Nat) (hn : n < 26) : (secF f n).size ≤ 400 := by
  unfold secF
  split
  · exact Nat.zero_le _
  · rename_i h
    rcases get_or f.map n with ⟨m, hm, _⟩ | ⟨_, hge⟩
    · rw [getD_of hm] at h ⊢
      rcases hf.at_ n m hm with rfl | ⟨j, u, rfl, hu, hok, _⟩
      · omega
      · rw [Int.toNat_natCast, getD_of hu]
        exact (rec_range hok).2.2.2.2
    · rw [hf.len] at hge; omega

theorem runs_87 (f : FtlV) (hf : f.right) (n : Nat) (hn : n < 26) : Runs Tryz.prog 87 [.agg [.v (.list false 1 (f.pages.map sRow)), .v (.list false 1 (f.wear.map nRow)), .v (.list false 1 (f.map.map nRow)), .v (.int .i64 f.seq)], .one (.v (.int .i64 n))] [.one (.v (.str (secF f n)))] [] := by
  refine runs_tab (tab := [(0, .agg [.c (.list false 1 (f.pages.map sRow)), .c (.list false 1 (f.wear.map nRow)), .c (.list false 1 (f.map.map nRow)), .c (.int .i64 f.seq)]), (1, .c (.int .i64 n))]) (rts := []) (n := 29) (k := 5) Tryz.func87 rfl rfl (by simp) rfl (fun t => ?_) rfl ?_
  · rcases t with _ | _ | t <;> rfl
  have hl := hf.len
  rcases get_or f.map n with ⟨m, hm, hlt⟩ | ⟨_, hge⟩
  case inr => omega
  have c1 : (0:Int) ≤ (n:Int) := by omega
  have c2 : (n:Int) < (f.map.length : Int) := by omega
  unfold secF
  rw [getD_of hm]
  (refine vw_go rfl ?_; simp only [go_sem, setCells, setIn])
  refine vw_seq ?_
  rcases hf.at_ n m hm with rfl | ⟨j, u, rfl, hu, hok, _⟩
  · (refine vw_go rfl ?_; simp only [c1, c2, Int.toNat_natCast, getD_map_of hm, nRow, go_sem, setCells, setIn])
    (refine vw_cond (t := true) rfl (fun _ => ?_) (fun h => nomatch h))
    (refine vw_go rfl ?_; simp only [go_sem, setCells, setIn])
    exact vw_ret (r_then (e_ret (ret_of rfl rfl (by simp [RB]) rfl rfl)))
  have g : ((j : Int) < 0) = False := eq_false (by omega)
  have c3 : (0:Int) ≤ (j:Int) := by omega
  have c4 : (j:Int) < (f.pages.length : Int) := by have := lt_of_getl hu; omega
  have rR := runs_142 u (hf.small.text u (List.mem_of_getElem? hu)) _ rfl
  rw [Int.toNat_natCast, getD_of hu]
  generalize recReadS u = R at rR
  obtain ⟨⟨s, sq, d⟩, ok⟩ := R
  (try simp only at rR)
  (refine vw_go rfl ?_; simp only [c1, c2, Int.toNat_natCast, getD_map_of hm, nRow, g, go_sem, setCells, setIn])
  (refine vw_cond (t := false) rfl (fun h => nomatch h) (fun _ => ?_))
  refine vw_skip (n_then ?_)
  (refine vw_draw mixed rfl rfl ?_; simp only [c1, c2, c3, c4, Int.toNat_natCast, getD_map_of hm, getD_map_of hu, nRow, sRow, go_sem, setCells, setIn])
  (refine ⟨_, _, _, call_rd_at [0] [] Tryz.func142 (rR) (fun _ _ => rfl) rfl rfl rfl rfl rfl rfl rfl rfl rfl rfl rfl rfl, ?_⟩)
  simp only [runH, runX, go_sem, setCells, setIn]
  refine ⟨by unfold allOk; kernel_rfl, ?_⟩
  (refine vw_go rfl ?_; simp only [go_sem, setCells, setIn])
  exact vw_ret (e_ret (ret_of rfl rfl (by simp [RB]) rfl rfl))

theorem runs_86 (f : FtlV) (hf : f.right) (n : Nat) (hn : n < 26) : Runs Tryz.prog 86 [.agg [.v (.list false 1 (f.pages.map sRow)), .v (.list false 1 (f.wear.map nRow)), .v (.list false 1 (f.map.map nRow)), .v (.int .i64 f.seq)], .one (.v (.int .i64 n))] [.one (.v (.str (secF f n)))] [] := by
  refine runs_tab (tab := [(0, .agg [.c (.list false 1 (f.pages.map sRow)), .c (.list false 1 (f.wear.map nRow)), .c (.list false 1 (f.map.map nRow)), .c (.int .i64 f.seq)]), (1, .c (.int .i64 n))]) (rts := []) (n := 34) (k := 5) Tryz.func86 rfl rfl (by simp) rfl (fun t => ?_) rfl ?_
  · rcases t with _ | _ | t <;> rfl
  have hl := hf.len
  rcases get_or f.map n with ⟨m, hm, hlt⟩ | ⟨_, hge⟩
  case inr => omega
  have c1 : (0:Int) ≤ (n:Int) := by omega
  have c2 : (n:Int) < (f.map.length : Int) := by omega
  have rS := runs_140 n
  rw [show inB (n : Int) 0 25 = true from by simp [inB]; omega] at rS
  unfold secF
  rw [getD_of hm]
  (refine vw_go rfl ?_; simp only [go_sem, setCells, setIn])
  refine vw_seq ?_
  (refine vw_go rfl ?_; simp only [go_sem, setCells, setIn])
  (refine ⟨_, _, call_rd [0] Tryz.func140 (rS) rfl rfl rfl rfl rfl rfl rfl rfl rfl rfl rfl rfl rfl, ?_⟩)
  rcases hf.at_ n m hm with rfl | ⟨j, u, rfl, hu, hok, _⟩
  · simp only [runH, runX, c1, c2, Int.toNat_natCast, getD_map_of hm, nRow, go_sem, setCells, setIn]
    (refine vw_cond (t := true) rfl (fun _ => ?_) (fun h => nomatch h))
    (refine vw_go rfl ?_; simp only [go_sem, setCells, setIn])
    exact vw_ret (r_then (e_ret (ret_of rfl rfl (by simp [RB]) rfl rfl)))
  have g : ((j : Int) < 0) = False := eq_false (by omega)
  have c3 : (0:Int) ≤ (j:Int) := by omega
  have c4 : (j:Int) < (f.pages.length : Int) := by have := lt_of_getl hu; omega
  have rR := runs_141 u (hf.small.text u (List.mem_of_getElem? hu)) _ rfl
  rw [Int.toNat_natCast, getD_of hu]
  generalize recReadS u = R at rR
  obtain ⟨⟨s, sq, d⟩, ok⟩ := R
  (try simp only at rR)
  simp only [runH, runX, c1, c2, Int.toNat_natCast, getD_map_of hm, nRow, g, go_sem, setCells, setIn]
  (refine vw_cond (t := false) rfl (fun h => nomatch h) (fun _ => ?_))
  refine vw_skip (n_then ?_)
  (refine vw_draw mixed rfl rfl ?_; simp only [c1, c2, c3, c4, Int.toNat_natCast, getD_map_of hm, getD_map_of hu, nRow, sRow, go_sem, setCells, setIn])
  (refine ⟨_, _, _, call_rd_at [0] [] Tryz.func141 (rR) (fun _ _ => rfl) rfl rfl rfl rfl rfl rfl rfl rfl rfl rfl rfl rfl, ?_⟩)
  simp only [runH, runX, go_sem, setCells, setIn]
  refine ⟨by unfold allOk; kernel_rfl, ?_⟩
  (refine vw_go rfl ?_; simp only [go_sem, setCells, setIn])
  exact vw_ret (e_ret (ret_of rfl rfl (by simp [RB]) rfl rfl))

/-- What a volume has. -/
def volF (f : FtlV) (v : Nat) : List ByteArray := (List.range 12).map fun k => secF f (v * 12 + k)
theorem volF_len (f : FtlV) (v : Nat) : (volF f v).length = 12 := by simp [volF]
def volTo (f : FtlV) (v i : Nat) : List ByteArray := (List.range i).map fun k => secF f (v * 12 + k)
theorem volTo_succ (f : FtlV) (v i : Nat) : volTo f v (i + 1) = volTo f v i ++ [secF f (v * 12 + i)] := by simp [volTo, List.range_succ]
theorem volTo_len (f : FtlV) (v i : Nat) : (volTo f v i).length = i := by simp [volTo]

theorem runs_100 (f : FtlV) (hf : f.right) (v : Nat) (hv : v ≤ 1) : Runs Tryz.prog 100 [.agg [.v (.list false 1 (f.pages.map sRow)), .v (.list false 1 (f.wear.map nRow)), .v (.list false 1 (f.map.map nRow)), .v (.int .i64 f.seq)], .one (.v (.int .i64 v))] [.one (.v (.list true 1 ((volF f v).map sRow)))] [] := by
  refine runs_tab (tab := [(0, .agg [.c (.list false 1 (f.pages.map sRow)), .c (.list false 1 (f.wear.map nRow)), .c (.list false 1 (f.map.map nRow)), .c (.int .i64 f.seq)]), (1, .c (.int .i64 v))]) (rts := []) (n := 22) (k := 5) Tryz.func100 rfl rfl (by simp) rfl (fun t => ?_) rfl ?_
  · rcases t with _ | _ | t <;> rfl
  (refine vw_go rfl ?_; simp only [go_sem, setCells, setIn])
  (refine vw_go rfl ?_; simp only [go_sem, setCells, setIn])
  refine vw_seq ?_
  (refine vw_go rfl ?_; simp only [go_sem, setCells, setIn])
  refine vw_block ?_
  refine vw_loop_tab (α := Nat) (fun x => 12 - x) (fun x => ⟨tabE [(1, .c (.int .i64 v)), (2, .ptr 5 [] 0 0 0), (5, .al 6 [] 0 1 0 x), (8, .c (.int .i64 x))], tabS [(5, some ⟨true, 4, [[.list false 1 (f.pages.map sRow), .list false 1 (f.wear.map nRow), .list false 1 (f.map.map nRow), .int .i64 f.seq]], []⟩), (6, some ⟨false, 1, (volTo f v x).map sRow, []⟩)], 7⟩)
    (fun x => x ≤ 12) (x := 0) ?round ?h0 ?hn
  case h0 => exact Nat.zero_le _
  case hn =>
    (refine norm_to [(5, 5), (65541, 6)] rfl ?_ ?_ <;> simp only [go_sem])
    · rfl
  rintro i hi
  (refine vw_go rfl ?_; simp only [go_sem, setCells, setIn])
  refine vw_seq ?_
  by_cases hc : (i : Int) < 12
  case neg =>
    refine vw_cond (t := false) (by simp [ev, tabE_cons, hc]) (fun h => nomatch h) (fun _ => ?_)
    refine vw_exit (x_then (x_then (x_block (n_then ?_))))
    obtain rfl : i = 12 := by omega
    (refine vw_go rfl ?_; simp only [go_sem, setCells, setIn])
    have qt : ((volTo f v 12).map sRow).take 12 = (volF f v).map sRow := by rw [List.take_of_length_le (by simp [volTo_len])]; rfl
    exact vw_ret (e_ret (ret_by rfl rfl (by simp [RB]) rfl (by simp only [takeCs, takeC, go_sem, qt, volTo_len, setCells, setIn])))
  refine vw_cond (t := true) (by simp [ev, tabE_cons, hc]) (fun _ => ?_) (fun h => nomatch h)
  refine vw_skip (n_then ?_)
  have w1 : IntKind.wrap .i64 ((v : Int) * 12) = ((v * 12 : Nat) : Int) := by rw [wrap_i64 (by omega) (by omega)]; omega
  have w2 : IntKind.wrap .i64 (((v * 12 : Nat) : Int) + (i : Int)) = ((v * 12 + i : Nat) : Int) := by rw [wrap_i64 (by omega) (by omega)]; omega
  have w3 : IntKind.wrap .i64 ((i:Int) + 1) = ((i + 1 : Nat) : Int) := by rw [wrap_i64 (by omega) (by omega)]; rfl
  have B : ¬ (i + 1 + 1) * (16 + 1) > bigRow := by simp only [bigRow]; omega
  have rS := runs_86 f hf (v * 12 + i) (by omega)
  have qt : ((volTo f v i).map sRow).take i = (volTo f v i).map sRow := by rw [List.take_of_length_le (by simp [volTo_len])]
  refine vw_seq ?_
  refine vw_block ?_
  (refine vw_go rfl ?_; simp only [go_sem, setCells, setIn])
  (refine vw_last rfl ?_; simp only [w1, w2, go_sem, setCells, setIn])
  (refine ⟨_, _, call_rx [0, 0] Tryz.func86 (rS) rfl rfl rfl rfl rfl rfl rfl (by simp [lendAll, lendC, seek, fresh, nav, rcells, RT.cells, VV.cells, tabE_cons, tabS_cons, ev, take_map_len, sRow_r1, sRow_comp, sRow_clean, nRow_r1, nRow_comp, nRow_clean]) rfl (by simp [rcells, RT.cells, CT.clean, T.clean, sRow_r1, sRow_comp, sRow_clean, nRow_r1, nRow_comp, nRow_clean]) rfl rfl, ?_⟩)
  simp only [runH, runX, range1, List.replicate_succ, List.replicate_zero, List.flatten_cons, List.flatten_nil, List.range_zero, gt_iff_lt, B, qt, volTo_len, List.length_append, List.length_map, go_sem, setCells, setIn]
  refine (n_block (n_then ?_))
  (refine vw_last rfl ?_; simp only [w3, go_sem, setCells, setIn])
  refine (n_then ?_)
  refine ⟨i + 1, by omega, by omega, ?_⟩
  (refine norm_to [(5, 5), (139271, 6)] rfl ?_ ?_ <;> simp only [go_sem])
  · rw [volTo_succ]; simp [sRow]

def volC (f : FtlV) (v : Int) : List ByteArray := if (inB v 0 1 && ftlOk f) = true then volF f v.toNat else []
theorem runs_93 (f : FtlV) (hs : f.small) (v : Int) : Runs Tryz.prog 93 [.agg [.v (.list false 1 (f.pages.map sRow)), .v (.list false 1 (f.wear.map nRow)), .v (.list false 1 (f.map.map nRow)), .v (.int .i64 f.seq)], .one (.v (.int .i64 v))] [.one (.v (.list true 1 ((volC f v).map sRow)))] [] := by
  refine runs_tab (tab := [(0, .agg [.c (.list false 1 (f.pages.map sRow)), .c (.list false 1 (f.wear.map nRow)), .c (.list false 1 (f.map.map nRow)), .c (.int .i64 f.seq)]), (1, .c (.int .i64 v))]) (rts := []) (n := 31) (k := 5) Tryz.func93 rfl rfl (by simp) rfl (fun t => ?_) rfl ?_
  · rcases t with _ | _ | t <;> rfl
  have r1 := runs_38 v 0 1
  have r2 := runs_84 f hs
  unfold volC
  (refine vw_go rfl ?_; simp only [go_sem, setCells, setIn])
  (refine vw_go rfl ?_; simp only [range1, List.replicate_succ, List.replicate_zero, List.flatten_cons, List.flatten_nil, List.range_zero, gt_iff_lt, go_sem, setCells, setIn])
  refine vw_seq ?_
  (refine vw_go rfl ?_; simp only [go_sem, setCells, setIn])
  (refine ⟨_, _, call_rd [0, 0, 0] Tryz.func38 (r1) rfl rfl rfl rfl rfl rfl rfl rfl rfl rfl rfl rfl rfl, ?_⟩)
  cases h1 : inB v 0 1
  · simp only [runH, runX, go_sem, setCells, setIn]
    (refine vw_cond (t := true) rfl (fun _ => ?_) (fun h => nomatch h))
    (refine vw_go rfl ?_; simp only [go_sem, setCells, setIn])
    exact vw_ret (r_then (e_ret (ret_by rfl rfl (by simp [RB]) rfl (by simp only [takeCs, takeC, go_sem, setCells, setIn]))))
  simp only [runH, runX, go_sem, setCells, setIn]
  (refine ⟨_, _, call_rx [0] Tryz.func84 (r2) rfl rfl rfl rfl rfl rfl rfl (by simp [lendAll, lendC, seek, fresh, nav, rcells, RT.cells, VV.cells, tabE_cons, tabS_cons, ev, take_map_len, sRow_r1, sRow_comp, sRow_clean, nRow_r1, nRow_comp, nRow_clean]) rfl (by simp [rcells, RT.cells, CT.clean, T.clean, sRow_r1, sRow_comp, sRow_clean, nRow_r1, nRow_comp, nRow_clean]) rfl rfl, ?_⟩)
  cases h2 : ftlOk f
  · simp only [runH, runX, go_sem, setCells, setIn]
    (refine vw_cond (t := true) rfl (fun _ => ?_) (fun h => nomatch h))
    (refine vw_go rfl ?_; simp only [go_sem, setCells, setIn])
    exact vw_ret (r_then (e_ret (ret_by rfl rfl (by simp [RB]) rfl (by simp only [takeCs, takeC, go_sem, setCells, setIn]))))
  simp only [runH, runX, go_sem, setCells, setIn]
  (refine vw_cond (t := false) rfl (fun h => nomatch h) (fun _ => ?_))
  refine vw_skip (n_then ?_)
  have hf := right_of hs h2
  have hv : 0 ≤ v ∧ v ≤ 1 := by simpa [inB] using h1
  obtain ⟨n, rfl⟩ : ∃ n : Nat, v = n := ⟨v.toNat, by omega⟩
  simp only [Int.toNat_natCast]
  refine vw_seq ?_
  (refine vw_go rfl ?_; simp only [go_sem, setCells, setIn])
  refine vw_block ?_
  refine vw_loop_tab (α := Nat) (fun x => 12 - x) (fun x => ⟨tabE [(1, .c (.int .i64 n)), (2, .ptr 5 [] 0 0 0), (5, .al 6 [] 0 1 0 x), (6, .c (.int .i64 x))], tabS [(5, some ⟨true, 4, [[.list false 1 (f.pages.map sRow), .list false 1 (f.wear.map nRow), .list false 1 (f.map.map nRow), .int .i64 f.seq]], []⟩), (6, some ⟨false, 1, (volTo f n x).map sRow, []⟩)], 7⟩)
    (fun x => x ≤ 12) (x := 0) ?round ?h0 ?hn
  case h0 => exact Nat.zero_le _
  case hn =>
    (refine norm_to [(5, 5), (65541, 6)] rfl ?_ ?_ <;> simp only [go_sem])
    · rfl
  rintro i hi
  refine vw_seq ?_
  by_cases hc : (i : Int) < 12
  case neg =>
    (refine vw_go rfl ?_; simp only [hc, go_sem, setCells, setIn])
    (refine vw_cond (t := false) rfl (fun h => nomatch h) (fun _ => ?_))
    refine vw_exit (x_then (x_then (x_block (n_then ?_))))
    obtain rfl : i = 12 := by omega
    (refine vw_go rfl ?_; simp only [go_sem, setCells, setIn])
    have qt : ((volTo f n 12).map sRow).take 12 = (volF f n).map sRow := by rw [List.take_of_length_le (by simp [volTo_len])]; rfl
    exact vw_ret (e_ret (ret_by rfl rfl (by simp [RB]) rfl (by simp only [takeCs, takeC, go_sem, qt, volTo_len, setCells, setIn])))
  (refine vw_go rfl ?_; simp only [hc, go_sem, setCells, setIn])
  (refine vw_cond (t := true) rfl (fun _ => ?_) (fun h => nomatch h))
  refine vw_skip (n_then ?_)
  have w1 : IntKind.wrap .i64 ((n : Int) * 12) = ((n * 12 : Nat) : Int) := by rw [wrap_i64 (by omega) (by omega)]; omega
  have w2 : IntKind.wrap .i64 (((n * 12 : Nat) : Int) + (i : Int)) = ((n * 12 + i : Nat) : Int) := by rw [wrap_i64 (by omega) (by omega)]; omega
  have w3 : IntKind.wrap .i64 ((i:Int) + 1) = ((i + 1 : Nat) : Int) := by rw [wrap_i64 (by omega) (by omega)]; rfl
  have B : ¬ (i + 1 + 1) * (16 + 1) > bigRow := by simp only [bigRow]; omega
  have rS := runs_87 f hf (n * 12 + i) (by omega)
  have qt : ((volTo f n i).map sRow).take i = (volTo f n i).map sRow := by rw [List.take_of_length_le (by simp [volTo_len])]
  refine vw_seq ?_
  refine vw_block ?_
  (refine vw_last rfl ?_; simp only [w1, w2, go_sem, setCells, setIn])
  (refine ⟨_, _, call_rx [0, 0] Tryz.func87 (rS) rfl rfl rfl rfl rfl rfl rfl (by simp [lendAll, lendC, seek, fresh, nav, rcells, RT.cells, VV.cells, tabE_cons, tabS_cons, ev, take_map_len, sRow_r1, sRow_comp, sRow_clean, nRow_r1, nRow_comp, nRow_clean]) rfl (by simp [rcells, RT.cells, CT.clean, T.clean, sRow_r1, sRow_comp, sRow_clean, nRow_r1, nRow_comp, nRow_clean]) rfl rfl, ?_⟩)
  simp only [runH, runX, range1, List.replicate_succ, List.replicate_zero, List.flatten_cons, List.flatten_nil, List.range_zero, gt_iff_lt, B, qt, volTo_len, List.length_append, List.length_map, go_sem, setCells, setIn]
  refine (n_block (n_then ?_))
  (refine vw_last rfl ?_; simp only [w3, go_sem, setCells, setIn])
  refine (n_then ?_)
  refine ⟨i + 1, by omega, by omega, ?_⟩
  (refine norm_to [(5, 5), (73735, 6)] rfl ?_ ?_ <;> simp only [go_sem])
  · rw [volTo_succ]; simp [sRow]
end Go.Proofs.YtppbonbghmdhhaaGreat
