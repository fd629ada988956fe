/- What is mounted: FtlOk, sectors, volumes of both. -/
import Derived.Test.YtppbonbghmdhhaaGreatPFFtlC
namespace Go.Proofs.YtppbonbghmdhhaaGreat
open Go.VM Go
set_option maxRecDepth 100000
set_option linter.unusedSimpArgs false
set_option linter.unusedVariables false
attribute [local congr] vw_congr runV_congr runH_congr runW_congr runX_congr

theorem mStep_inv {best map : List Int} {q : Int} {k : Nat} {t : ByteArray} {p : List ByteArray} (hm : map.length = 26) (hk : p[k]? = some t)
    (h : ∀ (n : Nat) m, map[n]? = some m → m = -1 ∨ ∃ (j : Nat) (u : ByteArray), m = (j : Int) ∧ p[j]? = some u ∧ (recReadS u).2 = true ∧ (recReadS u).1.1 = n) :
    ∀ (n : Nat) m, (mStep best map q k t).2.1[n]? = some m → m = -1 ∨ ∃ (j : Nat) (u : ByteArray), m = (j : Int) ∧ p[j]? = some u ∧ (recReadS u).2 = true ∧ (recReadS u).1.1 = n := by
  intro n m hn
  unfold mStep at hn
  split at hn
  · rename_i hok
    obtain ⟨h1, h2, _⟩ := rec_range hok
    split at hn
    · simp only [List.getElem?_set] at hn
      split at hn
      · rename_i e
        split at hn
        · cases hn
          exact .inr ⟨k, t, rfl, hk, hok, by omega⟩
        · cases hn
      · exact h n m hn
    · exact h n m hn
  · exact h n m hn
theorem mFrom_inv {p : List ByteArray} : ∀ (r : List ByteArray) (k : Nat) (best map : List Int) (q : Int), best.length = 26 → map.length = 26 → (1 ≤ q ∧ q ≤ 1000000000) → p.drop k = r →
    (∀ (n : Nat) m, map[n]? = some m → m = -1 ∨ ∃ (j : Nat) (u : ByteArray), m = (j : Int) ∧ p[j]? = some u ∧ (recReadS u).2 = true ∧ (recReadS u).1.1 = n) →
    (mFrom r k best map q).1.length = 26 ∧ (1 ≤ (mFrom r k best map q).2 ∧ (mFrom r k best map q).2 ≤ 1000000000) ∧
    ∀ (n : Nat) m, (mFrom r k best map q).1[n]? = some m → m = -1 ∨ ∃ (j : Nat) (u : ByteArray), m = (j : Int) ∧ p[j]? = some u ∧ (recReadS u).2 = true ∧ (recReadS u).1.1 = n
  | [], k, best, map, q, hb, hm, hq, hr, h => ⟨hm, hq, h⟩
  | t :: r, k, best, map, q, hb, hm, hq, hr, h => by
    have hk : p[k]? = some t := by
      have : (p.drop k)[0]? = some t := by rw [hr]; rfl
      rw [List.getElem?_drop] at this; simpa using this
    have hr' : p.drop (k + 1) = r := by
      have := drop_of hk
      rw [hr] at this
      exact (List.cons.inj this).2.symm
    obtain ⟨l1, l2, l3⟩ := mStep_len k t hb hm hq
    exact mFrom_inv r (k + 1) _ _ _ l1 l2 l3 hr' (mStep_inv hm hk h)
theorem mount_inv (p : List ByteArray) : (mountF p).1.length = 26 ∧ (1 ≤ (mountF p).2 ∧ (mountF p).2 ≤ 1000000000) ∧
    ∀ (n : Nat) m, (mountF p).1[n]? = some m → m = -1 ∨ ∃ (j : Nat) (u : ByteArray), m = (j : Int) ∧ p[j]? = some u ∧ (recReadS u).2 = true ∧ (recReadS u).1.1 = n := by
  refine mFrom_inv p 0 _ _ _ rfl rfl (by omega) rfl (fun n m h => .inl ?_)
  rw [List.getElem?_replicate] at h
  split at h <;> simp_all

def ftlOk (f : FtlV) : Bool := chipOk f.pages f.wear && (decide (f.map = (mountF f.pages).1) && decide (f.seq = (mountF f.pages).2))
structure FtlV.small (f : FtlV) : Prop where
  pages : f.pages.length ≤ 2 ^ 20
  wear : f.wear.length ≤ 2 ^ 20
  map : f.map.length ≤ 2 ^ 20
  text : ∀ s ∈ f.pages, s.size < 2 ^ 62

theorem runs_139 (l m : List Int) (hl : l.length < 2 ^ 62) (hm : m.length < 2 ^ 62) :
    Runs Tryz.prog 139 [.one (.v (.list false 1 (l.map nRow))), .one (.v (.list false 1 (m.map nRow)))] [.one (.v (.bool (decide (l = m))))] [] := by
  refine runs_tab (tab := [(0, .c (.list false 1 (l.map nRow))), (1, .c (.list false 1 (m.map nRow)))]) (rts := []) (n := 32) (k := 2) Tryz.func139 rfl rfl (by simp) rfl (fun t => ?_) rfl ?_
  · rcases t with _ | _ | t <;> rfl
  (refine vw_go rfl ?_; simp only [go_sem, setCells, setIn])
  refine vw_seq ?_
  (refine vw_go rfl ?_; simp only [go_sem, setCells, setIn])
  refine vw_block ?_
  refine vw_loop_tab (α := Nat) (fun x => m.length - x) (fun x => ⟨tabE [(0, .c (.list false 1 (l.map nRow))), (1, .c (.list false 1 (m.map nRow))), (5, .c (.int .i64 x))], tabS [], 2⟩)
    (fun x => x ≤ l.length ∧ x ≤ m.length ∧ l.take x = m.take x) (x := 0) ?round ?h0 ?hn
  case h0 => exact ⟨Nat.zero_le _, Nat.zero_le _, rfl⟩
  case hn => (refine norm_to [] rfl ?_ ?_ <;> simp only [go_sem])
  rintro i ⟨hi, hi2, he⟩
  refine vw_seq ?_
  rcases get_or l i with ⟨x, hx, hlt⟩ | ⟨_, hge⟩
  · rcases get_or m i with ⟨y, hy, hlt2⟩ | ⟨_, hge⟩
    · have c1 : (0:Int) ≤ (i:Int) := by omega
      have c2 : (i:Int) < (l.length : Int) := by omega
      have c3 : (i:Int) < (m.length : Int) := by omega
      have w2 : IntKind.wrap .i64 ((i:Int) + 1) = ((i + 1 : Nat) : Int) := by rw [wrap_i64 (by omega) (by omega)]; rfl
      (refine vw_go rfl ?_; simp only [c2, c3, go_sem, setCells, setIn])
      (refine vw_cond (t := true) rfl (fun _ => ?_) (fun h => nomatch h))
      refine vw_skip (n_then ?_)
      refine vw_seq ?_
      refine vw_block ?_
      (refine vw_draw mixed rfl rfl ?_; simp only [c1, c2, c3, Int.toNat_natCast, getD_map_of hx, getD_map_of hy, nRow, go_sem, setCells, setIn])
      refine ⟨by unfold allOk; kernel_rfl, ?_⟩
      refine vw_cond (t := !decide (x = y)) rfl (fun h => ?_) (fun h => ?_)
      · have h' : ¬ x = y := by simpa using h
        (refine vw_go rfl ?_; simp only [go_sem, setCells, setIn])
        rw [show decide (l = m) = false from decide_eq_false (fun e => h' (by rw [e] at hx; rw [hx] at hy; exact Option.some.inj hy))]
        exact vw_ret (r_block (r_then (r_then (r_block (r_then (e_ret (ret_of rfl rfl (by simp [RB]) rfl rfl)))))))
      · have h' : x = y := by simpa using h
        refine vw_skip (n_block (n_then ?_))
        (refine vw_last rfl ?_; simp only [w2, go_sem, setCells, setIn])
        refine (n_then ?_)
        refine ⟨i + 1, by omega, ⟨hlt, hlt2, by rw [List.take_add_one, List.take_add_one, he, hx, hy, h']⟩, ?_⟩
        (refine norm_to [] rfl ?_ ?_ <;> simp only [go_sem])
    · have c2 : (i:Int) < (l.length : Int) := by omega
      have c3 : ((i:Int) < (m.length : Int)) = False := eq_false (by omega)
      have c4 : ((l.length : Int) = (m.length : Int)) = False := eq_false (by omega)
      (refine vw_go rfl ?_; simp only [c2, c3, go_sem, setCells, setIn])
      (refine vw_cond (t := false) rfl (fun h => nomatch h) (fun _ => ?_))
      refine vw_exit (x_then (x_then (x_block (n_then ?_))))
      (refine vw_go rfl ?_; simp only [c4, go_sem, setCells, setIn])
      rw [show decide (l = m) = false from decide_eq_false (fun e => by rw [e] at hlt; omega)]
      exact vw_ret (e_ret (ret_of rfl rfl (by simp [RB]) rfl rfl))
  · have c2 : ((i:Int) < (l.length : Int)) = False := eq_false (by omega)
    (refine vw_go rfl ?_; simp only [c2, go_sem, setCells, setIn])
    (refine vw_cond (t := false) rfl (fun h => nomatch h) (fun _ => ?_))
    refine vw_exit (x_then (x_then (x_block (n_then ?_))))
    obtain rfl : i = l.length := by omega
    rw [List.take_length] at he
    (refine vw_go rfl ?_; simp only [go_sem, setCells, setIn])
    rw [show decide ((l.length : Int) = (m.length : Int)) = decide (l = m) from decide_eq_decide.2 ⟨fun h => by rw [he, List.take_of_length_le (by omega)], fun h => by rw [h]⟩]
    exact vw_ret (e_ret (ret_of rfl rfl (by simp [RB]) rfl rfl))

theorem runs_82 (f : FtlV) (hf : f.small) : Runs Tryz.prog 82 [.agg [.v (.list false 1 (f.pages.map sRow)), .v (.list false 1 (f.wear.map nRow)), .v (.list false 1 (f.map.map nRow)), .v (.int .i64 f.seq)]] [.one (.v (.bool (ftlOk f)))] [] := by
  refine runs_tab (tab := [(0, .agg [.c (.list false 1 (f.pages.map sRow)), .c (.list false 1 (f.wear.map nRow)), .c (.list false 1 (f.map.map nRow)), .c (.int .i64 f.seq)])]) (rts := []) (n := 23) (k := 4) Tryz.func82 rfl rfl (by simp) rfl (fun t => ?_) rfl ?_
  · cases t <;> rfl
  have r1 := runs_73 f.pages f.wear (by have := hf.pages; omega) (by have := hf.wear; omega)
  have r2 := runs_113 f.pages f.wear hf.pages hf.wear hf.text
  obtain ⟨m1, m2, m3⟩ := mount_inv f.pages
  have r3 := runs_137 f.map (mountF f.pages).1 (by have := hf.map; omega) (by omega)
  have hR : ftlOk f = (chipOk f.pages f.wear && (decide (f.map = (mountF f.pages).1) && decide (f.seq = (mountF f.pages).2))) := rfl
  rw [hR]
  generalize mountF f.pages = M at r2 r3 m1
  obtain ⟨mm, mq⟩ := M
  (try simp only at r2)
  (try simp only at r3)
  simp only
  have hp := hf.pages
  have hw := hf.wear
  have qp : (f.pages.map sRow).take f.pages.length = f.pages.map sRow := by rw [List.take_of_length_le (by simp)]
  have qw : (f.wear.map nRow).take f.wear.length = f.wear.map nRow := by rw [List.take_of_length_le (by simp)]
  have qm : (mm.map nRow).take mm.length = mm.map nRow := by rw [List.take_of_length_le (by simp)]
  (refine vw_go rfl ?_; simp only [go_sem, setCells, setIn])
  refine vw_seq ?_
  (refine vw_go rfl ?_; simp only [go_sem, setCells, setIn])
  (refine ⟨_, _, call_rx [0] Tryz.func73 (r1) rfl rfl rfl rfl rfl rfl rfl (by simp [lendAll, lendC, seek, fresh, nav, rcells, RT.cells, VV.cells, tabE_cons, tabS_cons, ev, take_map_len, sRow_r1, sRow_comp, sRow_clean, nRow_r1, nRow_comp, nRow_clean]) rfl (by simp [rcells, RT.cells, CT.clean, T.clean, sRow_r1, sRow_comp, sRow_clean, nRow_r1, nRow_comp, nRow_clean]) rfl rfl, ?_⟩)
  cases hk : chipOk f.pages f.wear
  · simp only [runH, runX, go_sem, setCells, setIn]
    (refine vw_cond (t := true) rfl (fun _ => ?_) (fun h => nomatch h))
    (refine vw_go rfl ?_; simp only [go_sem, setCells, setIn])
    exact vw_ret (r_then (e_ret (ret_of rfl rfl (by simp [RB]) rfl rfl)))
  simp only [runH, runX, go_sem, setCells, setIn]
  (refine vw_cond (t := false) rfl (fun h => nomatch h) (fun _ => ?_))
  refine vw_skip (n_then ?_)
  (refine vw_go rfl ?_; simp only [go_sem, setCells, setIn])
  (refine ⟨_, _, call_rx [0] Tryz.func113 (r2) rfl rfl rfl rfl rfl rfl rfl (by simp [lendAll, lendC, seek, fresh, nav, rcells, RT.cells, VV.cells, tabE_cons, tabS_cons, ev, take_map_len, sRow_r1, sRow_comp, sRow_clean, nRow_r1, nRow_comp, nRow_clean]) rfl (by simp [rcells, RT.cells, CT.clean, T.clean, sRow_r1, sRow_comp, sRow_clean, nRow_r1, nRow_comp, nRow_clean]) rfl rfl, ?_⟩)
  simp only [runH, runX, qp, qw, qm, List.length_map, go_sem, setCells, setIn]
  (refine vw_go rfl ?_; simp only [go_sem, setCells, setIn])
  (refine ⟨_, _, call_rx [0, 0] Tryz.func137 (r3) rfl rfl rfl rfl rfl rfl rfl (by simp [lendAll, lendC, seek, fresh, nav, rcells, RT.cells, VV.cells, tabE_cons, tabS_cons, ev, take_map_len, sRow_r1, sRow_comp, sRow_clean, nRow_r1, nRow_comp, nRow_clean]) rfl (by simp [rcells, RT.cells, CT.clean, T.clean, sRow_r1, sRow_comp, sRow_clean, nRow_r1, nRow_comp, nRow_clean]) rfl rfl, ?_⟩)
  by_cases he : f.map = mm
  · simp only [runH, runX, he, go_sem, setCells, setIn]
    exact vw_ret (e_ret (ret_of rfl rfl (by simp [RB]) rfl rfl))
  · simp only [runH, runX, he, go_sem, setCells, setIn]
    exact vw_ret (e_ret (ret_of rfl rfl (by simp [RB]) rfl rfl))

theorem runs_84 (f : FtlV) (hf : f.small) : Runs Tryz.prog 84 [.agg [.v (.list false 1 (f.pages.map sRow)), .v (.list false 1 (f.wear.map nRow)), .v (.list false 1 (f.map.map nRow)), .v (.int .i64 f.seq)]] [.one (.v (.bool (ftlOk f)))] [] := by
  refine runs_tab (tab := [(0, .agg [.c (.list false 1 (f.pages.map sRow)), .c (.list false 1 (f.wear.map nRow)), .c (.list false 1 (f.map.map nRow)), .c (.int .i64 f.seq)])]) (rts := []) (n := 24) (k := 4) Tryz.func84 rfl rfl (by simp) rfl (fun t => ?_) rfl ?_
  · cases t <;> rfl
  have r1 := runs_77 f.pages f.wear (by have := hf.pages; omega) (by have := hf.wear; omega)
  have r2 := runs_109 f.pages f.wear hf.pages hf.wear hf.text _ rfl
  obtain ⟨m1, m2, m3⟩ := mount_inv f.pages
  have hR : ftlOk f = (chipOk f.pages f.wear && (decide ((mountF f.pages).1 = f.map) && decide ((mountF f.pages).2 = f.seq))) := by
    unfold ftlOk
    rw [show decide (f.map = (mountF f.pages).1) = decide ((mountF f.pages).1 = f.map) from decide_eq_decide.2 eq_comm, show decide (f.seq = (mountF f.pages).2) = decide ((mountF f.pages).2 = f.seq) from decide_eq_decide.2 eq_comm]
  rw [hR]
  unfold mountC at r2
  generalize mountF f.pages = M at r2 m1
  obtain ⟨mm, mq⟩ := M
  have r3 := runs_139 mm f.map (by simp only at m1; omega) (by have := hf.map; omega)
  simp only
  obtain ⟨Y, hY⟩ : ∃ Y, Y = (if chipOk f.pages f.wear = true then (⟨f.pages, f.wear, mm, mq⟩ : FtlV) else zFtl) := ⟨_, rfl⟩
  (try simp only at r2)
  rw [← hY] at r2
  have qp : (Y.pages.map sRow).take Y.pages.length = Y.pages.map sRow := by rw [List.take_of_length_le (by simp)]
  have qw : (Y.wear.map nRow).take Y.wear.length = Y.wear.map nRow := by rw [List.take_of_length_le (by simp)]
  have qm : (Y.map.map nRow).take Y.map.length = Y.map.map nRow := by rw [List.take_of_length_le (by simp)]
  (refine vw_go rfl ?_; simp only [go_sem, setCells, setIn])
  (refine vw_go rfl ?_; simp only [go_sem, setCells, setIn])
  (refine ⟨_, _, call_rx [0] Tryz.func109 (r2) rfl rfl rfl rfl rfl rfl rfl (by simp [lendAll, lendC, seek, fresh, nav, rcells, RT.cells, VV.cells, tabE_cons, tabS_cons, ev, take_map_len, sRow_r1, sRow_comp, sRow_clean, nRow_r1, nRow_comp, nRow_clean]) rfl (by simp [rcells, RT.cells, CT.clean, T.clean, sRow_r1, sRow_comp, sRow_clean, nRow_r1, nRow_comp, nRow_clean]) rfl rfl, ?_⟩)
  simp only [runH, runX, qp, qw, qm, List.length_map, go_sem, setCells, setIn]
  (refine vw_go rfl ?_; simp only [go_sem, setCells, setIn])
  (refine ⟨_, _, call_rx [0] Tryz.func77 (r1) rfl rfl rfl rfl rfl rfl rfl (by simp [lendAll, lendC, seek, fresh, nav, rcells, RT.cells, VV.cells, tabE_cons, tabS_cons, ev, take_map_len, sRow_r1, sRow_comp, sRow_clean, nRow_r1, nRow_comp, nRow_clean]) rfl (by simp [rcells, RT.cells, CT.clean, T.clean, sRow_r1, sRow_comp, sRow_clean, nRow_r1, nRow_comp, nRow_clean]) rfl rfl, ?_⟩)
  cases hk : chipOk f.pages f.wear
  · simp only [runH, runX, go_sem, setCells, setIn]
    exact vw_ret (e_ret (ret_of rfl rfl (by simp [RB]) rfl rfl))
  rw [hk] at hY
  obtain rfl : Y = ⟨f.pages, f.wear, mm, mq⟩ := hY
  simp only
  simp only [runH, runX, go_sem, setCells, setIn]
  (refine ⟨_, _, call_rx [0, 0] Tryz.func139 (r3) rfl rfl rfl rfl rfl rfl rfl (by simp [lendAll, lendC, seek, fresh, nav, rcells, RT.cells, VV.cells, tabE_cons, tabS_cons, ev, take_map_len, sRow_r1, sRow_comp, sRow_clean, nRow_r1, nRow_comp, nRow_clean]) rfl (by simp [rcells, RT.cells, CT.clean, T.clean, sRow_r1, sRow_comp, sRow_clean, nRow_r1, nRow_comp, nRow_clean]) rfl rfl, ?_⟩)
  by_cases he : mm = f.map
  · simp only [runH, runX, he, go_sem, setCells, setIn]
    exact vw_ret (e_ret (ret_of rfl rfl (by simp [RB]) rfl rfl))
  · simp only [runH, runX, he, go_sem, setCells, setIn]
    exact vw_ret (e_ret (ret_of rfl rfl (by simp [RB]) rfl rfl))
end Go.Proofs.YtppbonbghmdhhaaGreat
