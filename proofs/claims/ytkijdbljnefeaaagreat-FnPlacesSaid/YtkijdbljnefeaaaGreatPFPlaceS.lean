/- Sectors and volumes of both. What the places of a chip are, and what is planned: in plain Lean. Places of the reference: l4Clear, l4Next, NextPage, FreeBlocks, l5Open. -/
import Derived.Test.YtkijdbljnefeaaaGreatPFFtl
import Derived.Test.YtkijdbljnefeaaaGreatPFIn
set_option linter.unusedSimpArgs false
set_option linter.unusedVariables false
namespace Go.Proofs.YtkijdbljnefeaaaGreat
open Go.VM Go
def aheadPFPlaceS1 : List (List Nat) := [[], [0], [0, 1], [0, 1, 2], [0, 1, 2, 3], [0, 1, 2, 3, 4], [0, 1, 2, 3, 4, 5], [0, 1, 2, 3, 4, 5, 6], [0, 1, 2, 3, 4, 5], [0, 1, 2, 3, 4, 5, 6, 7, 8], [0, 1, 2, 3, 4, 5, 6, 7, 8, 9], [0, 1, 2, 3, 4, 5], [0, 1, 2, 3, 4, 5, 11], [0, 1, 2, 3, 4, 5], [0, 1, 2, 3, 4, 5, 11, 12, 13], [0, 1, 2, 3, 4, 5, 11, 12, 13, 14], [0, 1, 2, 3, 4, 5, 6, 7, 8, 9, 10, 11, 12, 13, 14, 15], [0, 1, 2, 3, 4, 5, 6, 7, 8, 9, 10, 11, 12, 13, 14, 15, 16], [0, 1, 2, 3, 4, 5, 6, 7, 8, 9, 10, 11, 12, 13, 14, 15, 16, 17]]
set_option maxRecDepth 100000
attribute [local congr] vw_congr runV_congr runH_congr runW_congr runX_congr stuckV_congr stuckX_congr
/-- What a sector has. -/
def secF (f : FtlV) (n : Nat) : ByteArray := if f.map.getD n (-1) < 0 then ⟨#[]⟩ else (recReadS (f.pages.getD (f.map.getD n (-1)).toNat ⟨#[]⟩)).1.2.2
structure FtlV.right (f : FtlV) : Prop where
  small : f.small
  len : f.map.length = 26
  at_ : ∀ (n : Nat) m, f.map[n]? = some m → m = -1 ∨ ∃ (j : Nat) (u : ByteArray), m = (j : Int) ∧ f.pages[j]? = some u ∧ (recReadS u).2 = true ∧ (recReadS u).1.1 = n
theorem right_of {f : FtlV} (hs : f.small) (h : ftlOk f = true) : f.right := by
  simp only [ftlOk, Bool.and_eq_true, decide_eq_true_eq] at h
  obtain ⟨m1, m2, m3⟩ := mount_inv f.pages
  rw [← h.2.1] at m1 m3
  exact ⟨hs, m1, m3⟩
theorem runs_36 (f : FtlV) (hf : f.right) (n : Nat) (hn : n < 26) : Runs Tryz.prog 36 [.agg [.v (.list false 1 (f.pages.map sRow)), .v (.list false 1 (f.wear.map nRow)), .v (.list false 1 (f.map.map nRow)), .v (.int .i64 f.seq)], .one (.v (.int .i64 n))] [.one (.v (.str (secF f n)))] [] := by
  refine runs_tab (tab := [(0, .agg [.c (.list false 1 (f.pages.map sRow)), .c (.list false 1 (f.wear.map nRow)), .c (.list false 1 (f.map.map nRow)), .c (.int .i64 f.seq)]), (1, .c (.int .i64 n))]) (rts := []) (n := 29) (k := 5) Tryz.func36 rfl rfl (by simp) rfl (fun t => ?_) rfl ?_
  · rcases t with _ | _ | t <;> rfl
  have hl := hf.len
  rcases get_or f.map n with ⟨m, hm, hlt⟩ | ⟨_, hge⟩
  case inr => omega
  have c1 : (0:Int) ≤ (n:Int) := by omega
  have c2 : (n:Int) < (f.map.length : Int) := by omega
  unfold secF
  rw [getD_of hm]
  refine vw_go rfl ?_; simp only [go_sem, setCells, setIn]
  refine vw_seq ?_
  rcases hf.at_ n m hm with rfl | ⟨j, u, rfl, hu, hok, _⟩
  · (refine vw_go rfl ?_; simp only [c1, c2, Int.toNat_natCast, getD_map_of hm, nRow, go_sem, setCells, setIn])
    refine vw_cond (t := true) rfl (fun _ => ?_) (fun h => nomatch h)
    refine vw_go rfl ?_; simp only [go_sem, setCells, setIn]
    exact vw_ret (r_then (e_ret (ret_of rfl rfl (by simp [RB]) rfl rfl)))
  have g : ((j : Int) < 0) = False := eq_false (by omega)
  have c3 : (0:Int) ≤ (j:Int) := by omega
  have c4 : (j:Int) < (f.pages.length : Int) := by have := lt_of_getl hu; omega
  have rR := runs_56 u (hf.small.text u (List.mem_of_getElem? hu)) _ rfl
  rw [Int.toNat_natCast, getD_of hu]
  generalize recReadS u = R at rR
  obtain ⟨⟨s, sq, d⟩, ok⟩ := R
  (try simp only at rR)
  refine vw_go rfl ?_; simp only [c1, c2, Int.toNat_natCast, getD_map_of hm, nRow, g, go_sem, setCells, setIn]
  refine vw_cond (t := false) rfl (fun h => nomatch h) (fun _ => ?_)
  refine vw_skip (n_then ?_)
  refine vw_draw mixed rfl rfl ?_; simp only [c1, c2, c3, c4, Int.toNat_natCast, getD_map_of hm, getD_map_of hu, nRow, sRow, go_sem, setCells, setIn]
  refine ⟨_, _, _, call_rd_at [0] [] Tryz.func56 (rR) (fun _ _ => rfl) rfl rfl rfl rfl rfl rfl rfl rfl rfl rfl rfl rfl, ?_⟩
  simp only [runH, runX, go_sem, setCells, setIn]
  refine ⟨by unfold allOk; kernel_rfl, ?_⟩
  refine vw_go rfl ?_; simp only [go_sem, setCells, setIn]
  exact vw_ret (e_ret (ret_of rfl rfl (by simp [RB]) rfl rfl))
theorem runs_35 (f : FtlV) (hf : f.right) (n : Nat) (hn : n < 26) : Runs Tryz.prog 35 [.agg [.v (.list false 1 (f.pages.map sRow)), .v (.list false 1 (f.wear.map nRow)), .v (.list false 1 (f.map.map nRow)), .v (.int .i64 f.seq)], .one (.v (.int .i64 n))] [.one (.v (.str (secF f n)))] [] := by
  refine runs_tab (tab := [(0, .agg [.c (.list false 1 (f.pages.map sRow)), .c (.list false 1 (f.wear.map nRow)), .c (.list false 1 (f.map.map nRow)), .c (.int .i64 f.seq)]), (1, .c (.int .i64 n))]) (rts := []) (n := 34) (k := 5) Tryz.func35 rfl rfl (by simp) rfl (fun t => ?_) rfl ?_
  · rcases t with _ | _ | t <;> rfl
  have hl := hf.len
  rcases get_or f.map n with ⟨m, hm, hlt⟩ | ⟨_, hge⟩
  case inr => omega
  have c1 : (0:Int) ≤ (n:Int) := by omega
  have c2 : (n:Int) < (f.map.length : Int) := by omega
  have rS := runs_54 n
  rw [show inB (n : Int) 0 25 = true from by simp [inB]; omega] at rS
  unfold secF
  rw [getD_of hm]
  refine vw_go rfl ?_; simp only [go_sem, setCells, setIn]
  refine vw_seq ?_
  refine vw_go rfl ?_; simp only [go_sem, setCells, setIn]
  refine ⟨_, _, call_rd [0] Tryz.func54 (rS) rfl rfl rfl rfl rfl rfl rfl rfl rfl rfl rfl rfl rfl, ?_⟩
  rcases hf.at_ n m hm with rfl | ⟨j, u, rfl, hu, hok, _⟩
  · simp only [runH, runX, c1, c2, Int.toNat_natCast, getD_map_of hm, nRow, go_sem, setCells, setIn]
    refine vw_cond (t := true) rfl (fun _ => ?_) (fun h => nomatch h)
    refine vw_go rfl ?_; simp only [go_sem, setCells, setIn]
    exact vw_ret (r_then (e_ret (ret_of rfl rfl (by simp [RB]) rfl rfl)))
  have g : ((j : Int) < 0) = False := eq_false (by omega)
  have c3 : (0:Int) ≤ (j:Int) := by omega
  have c4 : (j:Int) < (f.pages.length : Int) := by have := lt_of_getl hu; omega
  have rR := runs_55 u (hf.small.text u (List.mem_of_getElem? hu)) _ rfl
  rw [Int.toNat_natCast, getD_of hu]
  generalize recReadS u = R at rR
  obtain ⟨⟨s, sq, d⟩, ok⟩ := R
  (try simp only at rR)
  simp only [runH, runX, c1, c2, Int.toNat_natCast, getD_map_of hm, nRow, g, go_sem, setCells, setIn]
  refine vw_cond (t := false) rfl (fun h => nomatch h) (fun _ => ?_)
  refine vw_skip (n_then ?_)
  refine vw_draw mixed rfl rfl ?_; simp only [c1, c2, c3, c4, Int.toNat_natCast, getD_map_of hm, getD_map_of hu, nRow, sRow, go_sem, setCells, setIn]
  refine ⟨_, _, _, call_rd_at [0] [] Tryz.func55 (rR) (fun _ _ => rfl) rfl rfl rfl rfl rfl rfl rfl rfl rfl rfl rfl rfl, ?_⟩
  simp only [runH, runX, go_sem, setCells, setIn]
  refine ⟨by unfold allOk; kernel_rfl, ?_⟩
  refine vw_go rfl ?_; simp only [go_sem, setCells, setIn]
  exact vw_ret (e_ret (ret_of rfl rfl (by simp [RB]) rfl rfl))
end Go.Proofs.YtkijdbljnefeaaaGreat
namespace Go.Proofs.YtkijdbljnefeaaaGreat
open Go.VM Go
/-- A block's clear pages among its first ones, and the clear ones at their end. -/
def clearTo (p : List ByteArray) (b : Nat) : Nat → Nat × Nat
  | 0 => (0, 0)
  | i + 1 => if p.getD (b * 6 + i) ⟨#[]⟩ = ⟨#[]⟩ then ((clearTo p b i).1 + 1, (clearTo p b i).2 + 1) else ((clearTo p b i).1, 0)
def clearF (p : List ByteArray) (b : Nat) : Nat × Nat := clearTo p b 6
theorem clearTo_le (p : List ByteArray) (b : Nat) : ∀ i, (clearTo p b i).1 ≤ i ∧ (clearTo p b i).2 ≤ i
  | 0 => ⟨Nat.le_refl _, Nat.le_refl _⟩
  | i + 1 => by
    have := clearTo_le p b i
    unfold clearTo
    split
    · simp only; omega
    · simp only; omega
def nextGo (p : List ByteArray) (w : List Int) : Nat → Nat → Int → Int
  | 0, _, best => if best < 0 then -1 else best * 6
  | n + 1, b, best =>
    if 0 < (clearF p b).1 ∧ (clearF p b).1 < 6 ∧ (clearF p b).2 = (clearF p b).1 then (b : Int) * 6 + 6 - (clearF p b).1
    else nextGo p w n (b + 1) (if (clearF p b).1 = 6 ∧ (best < 0 ∨ w.getD b 0 < w.getD best.toNat 0) then (b : Int) else best)
def nextF (p : List ByteArray) (w : List Int) : Int := nextGo p w 10 0 (-1)
theorem nextGo_in (p : List ByteArray) (w : List Int) : ∀ (n b : Nat) (best : Int), b + n = 10 → -1 ≤ best → best < 10 → -1 ≤ nextGo p w n b best ∧ nextGo p w n b best < 60
  | 0, b, best, _, h1, h2 => by
    unfold nextGo
    split <;> omega
  | n + 1, b, best, hb, h1, h2 => by
    unfold nextGo
    split
    · omega
    · refine nextGo_in p w n (b + 1) _ (by omega) ?_ ?_
      · split <;> omega
      · split <;> omega
theorem nextF_in (p : List ByteArray) (w : List Int) : -1 ≤ nextF p w ∧ nextF p w < 60 := nextGo_in p w 10 0 (-1) rfl (by decide) (by decide)
def nextC (p : List ByteArray) (w : List Int) : Int := if chipOk p w = true then nextF p w else -1
def openF (p : List ByteArray) (w : List Int) : Int := if nextF p w < 0 ∨ nextF p w % 6 = 0 then -1 else nextF p w / 6
def freeTo (p : List ByteArray) : Nat → List Int
  | 0 => []
  | b + 1 => if (clearF p b).1 = 6 then freeTo p b ++ [(b : Int)] else freeTo p b
theorem freeTo_len (p : List ByteArray) : ∀ b, (freeTo p b).length ≤ b
  | 0 => Nat.le_refl _
  | b + 1 => by
    have := freeTo_len p b
    unfold freeTo
    split
    · simp; omega
    · omega
def freeB (p : List ByteArray) (w : List Int) : List Int := if chipOk p w = true then freeTo p 10 else []
theorem freeB_len (p : List ByteArray) (w : List Int) : (freeB p w).length ≤ 10 := by
  unfold freeB
  split
  · exact freeTo_len p 10
  · exact Nat.zero_le _
/-- What of a map lives in a block's first pages. -/
def livesTo (m : List Int) (b : Nat) : Nat → List Int
  | 0 => []
  | i + 1 => livesTo m b i ++ m.filter (fun x => decide (x = ((b * 6 + i : Nat) : Int)))
def livesF (m : List Int) (b : Nat) : List Int := livesTo m b 6
end Go.Proofs.YtkijdbljnefeaaaGreat
namespace Go.Proofs.YtkijdbljnefeaaaGreat
open Go.VM Go
set_option maxRecDepth 100000
attribute [-go_sem] runW_cons
attribute [local congr] vw_congr runV_congr runH_congr runW_congr runX_congr stuckV_congr stuckX_congr
theorem runs_27 (p : List ByteArray) (w : List Int) (hp : p.length = 60) (b : Nat) (hb : b < 10) :
    Runs Tryz.prog 27 [.agg [.v (.list false 1 (p.map sRow)), .v (.list false 1 (w.map nRow))], .one (.v (.int .i64 b))] [.one (.v (.int .i64 (clearF p b).1)), .one (.v (.int .i64 (clearF p b).2))] [] := by
  refine runs_tab (tab := [(0, .agg [.c (.list false 1 (p.map sRow)), .c (.list false 1 (w.map nRow))]), (1, .c (.int .i64 b))]) (rts := []) (n := 28) (k := 3) Tryz.func27 rfl rfl (by simp) rfl (fun t => ?_) rfl ?_
  · rcases t with _ | _ | t <;> rfl
  refine vw_go rfl ?_; simp only [go_sem, setCells, setIn]
  refine vw_go rfl ?_; simp only [go_sem, setCells, setIn]
  refine vw_seq ?_
  refine vw_go rfl ?_; simp only [go_sem, setCells, setIn]
  refine vw_block ?_
  refine vw_loop_tab (α := Nat) (fun x => 6 - x) (fun x => ⟨tabE [(1, .c (.int .i64 b)), (2, .ptr 3 [] 0 0 0), (6, .c (.int .i64 (clearTo p b x).1)), (7, .c (.int .i64 (clearTo p b x).2)), (8, .c (.int .i64 x))], tabS [(3, some ⟨true, 2, [[.list false 1 (p.map sRow), .list false 1 (w.map nRow)]], []⟩)], 4⟩)
    (fun x => x ≤ 6) (x := 0) ?round ?h0 ?hn
  case h0 => exact Nat.zero_le _
  case hn =>
    refine norm_to [(3, 3)] rfl ?_ ?_ <;> simp only [go_sem]
    · exact ⟨rfl, rfl⟩
  rintro i hi
  refine vw_seq ?_
  have hle := clearTo_le p b i
  by_cases hc : (i : Int) < 6
  case neg =>
    obtain rfl : i = 6 := by omega
    refine vw_go rfl ?_; simp only [hc, go_sem, setCells, setIn]
    refine vw_cond (t := false) rfl (fun h => nomatch h) (fun _ => ?_)
    refine vw_exit (x_then (x_then (x_block (n_then ?_))))
    refine vw_go rfl ?_; simp only [go_sem, setCells, setIn]
    exact vw_ret (e_ret (ret_of rfl rfl (by simp [RB]) rfl rfl))
  have w1 : IntKind.wrap .i64 ((i:Int) + 1) = ((i + 1 : Nat) : Int) := by rw [wrap_i64 (by omega) (by omega)]; rfl
  have w2 : IntKind.wrap .i64 (((clearTo p b i).2 : Int) + 1) = (((clearTo p b i).2 + 1 : Nat) : Int) := by rw [wrap_i64 (by omega) (by omega)]; rfl
  have w3 : IntKind.wrap .i64 (((clearTo p b i).1 : Int) + 1) = (((clearTo p b i).1 + 1 : Nat) : Int) := by rw [wrap_i64 (by omega) (by omega)]; rfl
  have w4 : IntKind.wrap .i64 ((b : Int) * 6) = (b : Int) * 6 := wrap_i64 (by omega) (by omega)
  have w5 : IntKind.wrap .i64 ((b : Int) * 6 + (i : Int)) = ((b * 6 + i : Nat) : Int) := by rw [wrap_i64 (by omega) (by omega)]; push_cast; rfl
  obtain ⟨s, hs⟩ : ∃ s, p[b * 6 + i]? = some s := ⟨_, List.getElem?_eq_getElem (by omega)⟩
  have c1 : (0:Int) ≤ ((b * 6 + i : Nat) : Int) := by omega
  have c2 : ((b * 6 + i : Nat) : Int) < (p.length : Int) := by omega
  have c3 : b * 6 + i < p.length := by omega
  have hst : clearTo p b (i + 1) = if s = ⟨#[]⟩ then ((clearTo p b i).1 + 1, (clearTo p b i).2 + 1) else ((clearTo p b i).1, 0) := by
    rw [clearTo, getD_of hs]
  refine vw_go rfl ?_; simp only [hc, go_sem, setCells, setIn]
  refine vw_cond (t := true) rfl (fun _ => ?_) (fun h => nomatch h)
  refine vw_skip (n_then ?_)
  refine vw_seq ?_
  refine vw_block ?_
  refine vw_go rfl ?_; simp only [w2, go_sem, setCells, setIn]
  by_cases hz : s = ⟨#[]⟩
  · have q1 : decide (s = ⟨#[]⟩) = true := decide_eq_true hz
    rw [if_pos hz] at hst
    refine vw_go rfl ?_; simp only [w4, w5, c1, c2, c3, Int.toNat_natCast, getD_map_of hs, sRow, q1, go_sem, setCells, setIn]
    refine vw_cond (t := true) rfl (fun _ => ?_) (fun h => nomatch h)
    refine vw_last rfl ?_; simp only [w3, go_sem, setCells, setIn]
    refine (n_block (n_then ?_))
    refine vw_last rfl ?_; simp only [w1, go_sem, setCells, setIn]
    refine (n_then ?_)
    refine ⟨i + 1, by omega, (by omega : i + 1 ≤ 6), ?_⟩
    rw [hst]
    refine norm_to [(3, 3)] rfl ?_ ?_ <;> simp only [go_sem]
  · have q1 : decide (s = ⟨#[]⟩) = false := decide_eq_false hz
    rw [if_neg hz] at hst
    refine vw_go rfl ?_; simp only [w4, w5, c1, c2, c3, Int.toNat_natCast, getD_map_of hs, sRow, q1, go_sem, setCells, setIn]
    refine vw_cond (t := false) rfl (fun h => nomatch h) (fun _ => ?_)
    refine vw_last rfl ?_; simp only [w3, go_sem, setCells, setIn]
    refine (n_block (n_then ?_))
    refine vw_last rfl ?_; simp only [w1, go_sem, setCells, setIn]
    refine (n_then ?_)
    refine ⟨i + 1, by omega, (by omega : i + 1 ≤ 6), ?_⟩
    rw [hst]
    refine norm_to [(3, 3)] rfl ?_ ?_ <;> simp only [go_sem]
set_option maxHeartbeats 1000000 in
theorem runs_26 (p : List ByteArray) (w : List Int) (hp : p.length = 60) (hw : w.length = 10) : Runs Tryz.prog 26 [.agg [.v (.list false 1 (p.map sRow)), .v (.list false 1 (w.map nRow))]] [.one (.v (.int .i64 (nextF p w)))] [] := by
  refine runs_tab (tab := [(0, .agg [.c (.list false 1 (p.map sRow)), .c (.list false 1 (w.map nRow))])]) (rts := []) (n := 57) (k := 2) Tryz.func26 rfl rfl (by simp) rfl (fun t => ?_) rfl ?_
  · rcases t with _ | t <;> rfl
  generalize hF : nextF p w = F
  unfold nextF at hF
  refine vw_go rfl ?_; simp only [go_sem, setCells, setIn]
  refine vw_go rfl ?_; simp only [go_sem, setCells, setIn]
  refine vw_seq ?_
  refine vw_go rfl ?_; simp only [go_sem, setCells, setIn]
  refine vw_block ?_
  refine vw_loop_tab (α := Nat × Int) (fun x => 10 - x.1) (fun x => ⟨tabE [(1, .ptr 2 [] 0 0 0), (3, .c (.int .i64 x.2)), (4, .c (.int .i64 x.1))], tabS [(2, some ⟨true, 2, [[.list false 1 (p.map sRow), .list false 1 (w.map nRow)]], []⟩)], 3⟩)
    (fun x => x.1 ≤ 10 ∧ -1 ≤ x.2 ∧ x.2 < 10 ∧ nextGo p w (10 - x.1) x.1 x.2 = F) (x := (0, -1)) ?round ?h0 ?hn
  case h0 => exact ⟨Nat.zero_le _, by decide, by decide, hF⟩
  case hn =>
    refine norm_to [(2, 2)] rfl ?_ ?_ <;> simp only [go_sem]
  rintro ⟨b, best⟩ ⟨hb, b1, b2, hg⟩
  simp only at hb b1 b2 hg
  refine vw_seq ?_
  by_cases hc : (b : Int) < 10
  case neg =>
    obtain rfl : b = 10 := by omega
    refine vw_go rfl ?_; simp only [hc, go_sem, setCells, setIn]
    refine vw_cond (t := false) rfl (fun h => nomatch h) (fun _ => ?_)
    refine vw_exit (x_then (x_then (x_block (n_then ?_))))
    rw [Nat.sub_self, nextGo] at hg
    refine vw_seq ?_
    by_cases hn : best < 0
    · rw [if_pos hn] at hg
      subst hg
      refine vw_go rfl ?_; simp only [hn, go_sem, setCells, setIn]
      refine vw_cond (t := true) rfl (fun _ => ?_) (fun h => nomatch h)
      refine vw_go rfl ?_; simp only [go_sem, setCells, setIn]
      exact vw_ret (r_then (e_ret (ret_of rfl rfl (by simp [RB]) rfl rfl)))
    · rw [if_neg hn] at hg
      subst hg
      have w1 : IntKind.wrap .i64 (best * 6) = best * 6 := wrap_i64 (by omega) (by omega)
      refine vw_go rfl ?_; simp only [hn, go_sem, setCells, setIn]
      refine vw_cond (t := false) rfl (fun h => nomatch h) (fun _ => ?_)
      refine vw_skip (n_then ?_)
      refine vw_go rfl ?_; simp only [w1, go_sem, setCells, setIn]
      exact vw_ret (e_ret (ret_of rfl rfl (by simp [RB]) rfl rfl))
  obtain ⟨m, hm⟩ : ∃ m, 10 - b = m + 1 := ⟨9 - b, by omega⟩
  have hm2 : 10 - (b + 1) = m := by omega
  rw [hm, nextGo] at hg
  have rC := runs_27 p w hp b (by omega)
  have hle := clearTo_le p b 6
  change (clearF p b).1 ≤ 6 ∧ (clearF p b).2 ≤ 6 at hle
  generalize clearF p b = C at rC hle hg
  obtain ⟨n, tail⟩ := C
  simp only at rC hle hg
  have w1 : IntKind.wrap .i64 ((b:Int) + 1) = ((b + 1 : Nat) : Int) := by rw [wrap_i64 (by omega) (by omega)]; rfl
  refine vw_go rfl ?_; simp only [hc, go_sem, setCells, setIn]
  refine vw_cond (t := true) rfl (fun _ => ?_) (fun h => nomatch h)
  refine vw_skip (n_then ?_)
  refine vw_seq ?_
  refine vw_block ?_
  refine vw_go rfl ?_; simp only [go_sem, setCells, setIn]
  refine ⟨_, _, call_rx [0, 0] Tryz.func27 (rC) rfl rfl rfl rfl rfl rfl rfl (by simp [lendAll, lendC, seek, fresh, nav, rcells, RT.cells, VV.cells, tabE_cons, tabS_cons, ev, take_map_len, sRow_r1, sRow_comp, sRow_clean, nRow_r1, nRow_comp, nRow_clean]) rfl (by simp [rcells, RT.cells, CT.clean, T.clean, sRow_r1, sRow_comp, sRow_clean, nRow_r1, nRow_comp, nRow_clean]) rfl rfl, ?_⟩
  simp only [runH, runX, go_sem, setCells, setIn]
  refine vw_join (α := Unit) (fun _ => ⟨tabE [(1, .ptr 2 [] 0 0 0), (3, .c (.int .i64 best)), (4, .c (.int .i64 b)), (5, .c (.int .i64 n))], tabS [(2, some ⟨true, 2, [[.list false 1 (p.map sRow), .list false 1 (w.map nRow)]], []⟩)], 3⟩)
    (fun _ => ¬ (0 < n ∧ n < 6 ∧ tail = n)) ?_ ?_
  · by_cases h1 : 0 < n
    case neg =>
      have q1 : ¬ (0 : Int) < (n : Int) := by omega
      refine vw_go rfl ?_; simp only [q1, go_sem, setCells, setIn]
      refine vw_cond (t := false) rfl (fun h => nomatch h) (fun _ => ?_)
      refine vw_skip (n_then ⟨(), fun h => h1 h.1, ?_⟩)
      refine norm_to [(2, 2)] rfl ?_ ?_ <;> simp only [go_sem]
    have q1 : (0 : Int) < (n : Int) := by omega
    by_cases h2 : n < 6
    case neg =>
      have q2 : ¬ (n : Int) < 6 := by omega
      refine vw_go rfl ?_; simp only [q1, q2, go_sem, setCells, setIn]
      refine vw_cond (t := false) rfl (fun h => nomatch h) (fun _ => ?_)
      refine vw_skip (n_then ⟨(), fun h => h2 h.2.1, ?_⟩)
      refine norm_to [(2, 2)] rfl ?_ ?_ <;> simp only [go_sem]
    have q2 : (n : Int) < 6 := by omega
    by_cases h3 : tail = n
    case neg =>
      have q3 : ¬ (tail : Int) = (n : Int) := by omega
      refine vw_go rfl ?_; simp only [q1, q2, q3, go_sem, setCells, setIn]
      refine vw_cond (t := false) rfl (fun h => nomatch h) (fun _ => ?_)
      refine vw_skip (n_then ⟨(), fun h => h3 h.2.2, ?_⟩)
      refine norm_to [(2, 2)] rfl ?_ ?_ <;> simp only [go_sem]
    rw [if_pos ⟨h1, h2, h3⟩] at hg
    subst h3
    subst hg
    have v1 : IntKind.wrap .i64 ((b:Int) * 6) = (b : Int) * 6 := wrap_i64 (by omega) (by omega)
    have v2 : IntKind.wrap .i64 ((b:Int) * 6 + 6) = (b : Int) * 6 + 6 := wrap_i64 (by omega) (by omega)
    have v3 : IntKind.wrap .i64 ((b:Int) * 6 + 6 - (tail : Int)) = (b : Int) * 6 + 6 - (tail : Int) := wrap_i64 (by omega) (by omega)
    refine vw_go rfl ?_; simp only [q1, q2, go_sem, setCells, setIn]
    refine vw_cond (t := true) rfl (fun _ => ?_) (fun h => nomatch h)
    refine vw_go rfl ?_; simp only [v1, v2, v3, go_sem, setCells, setIn]
    refine vw_ret ?_
    repeat (first | refine r_then ?_ | refine r_block ?_)
    exact e_ret (ret_of rfl rfl (by simp [RB]) rfl rfl)
  rintro _ hno
  rw [if_neg hno] at hg
  obtain ⟨wb, hwb⟩ : ∃ x, w[b]? = some x := ⟨_, List.getElem?_eq_getElem (by omega)⟩
  have c0 : (0:Int) ≤ (b : Int) := by omega
  have c1 : (b : Int) < (w.length : Int) := by omega
  have c2 : b < w.length := by omega
  rw [getD_of hwb] at hg
  refine vw_drawA mixed rfl rfl ?_; intro A hAA
  have k2 : (A[2]?).bind (·.dst) = some 35 := by subst hAA; rfl
  have k5 : (A[5]?).bind (·.dst) = some 38 := by subst hAA; rfl
  by_cases h6 : n = 6
  case neg =>
    rw [if_neg (fun h => h6 h.1)] at hg
    have q6 : ¬ (n : Int) = 6 := by omega
    simp (maxSteps := 1000000) only [k2, k5, q6, go_sem, setCells, setIn, runW_step]
    refine ⟨by subst hAA; exact allOk_pre aheadPFPlaceS1 (by kernel_rfl) (Nat.le_of_ble_eq_true (by kernel_rfl)) (by kernel_rfl), ?_⟩
    refine vw_cond (t := false) rfl (fun h => nomatch h) (fun _ => ?_)
    refine vw_skip (n_block (n_then ?_))
    refine vw_last rfl ?_; simp only [w1, go_sem, setCells, setIn]
    refine (n_then ?_)
    refine ⟨(b + 1, best), by simp only; omega, ⟨by simp only; omega, b1, b2, by rw [← hm2] at hg; exact hg⟩, ?_⟩
    refine norm_to [(2, 2)] rfl ?_ ?_ <;> simp only [go_sem]
  have q6 : (n : Int) = 6 := by omega
  by_cases hneg : best < 0
  case pos =>
    rw [if_pos ⟨h6, .inl hneg⟩] at hg
    simp (maxSteps := 1000000) only [k2, k5, q6, hneg, go_sem, setCells, setIn, runW_step]
    refine ⟨by subst hAA; exact allOk_pre aheadPFPlaceS1 (by kernel_rfl) (Nat.le_of_ble_eq_true (by kernel_rfl)) (by kernel_rfl), ?_⟩
    refine vw_cond (t := true) rfl (fun _ => ?_) (fun h => nomatch h)
    refine vw_last rfl ?_; simp only [go_sem, setCells, setIn]
    refine (n_block (n_then ?_))
    refine vw_last rfl ?_; simp only [w1, go_sem, setCells, setIn]
    refine (n_then ?_)
    refine ⟨(b + 1, b), by simp only; omega, ⟨by simp only; omega, by simp only; omega, by simp only; omega, by rw [← hm2] at hg; exact hg⟩, ?_⟩
    refine norm_to [(2, 2)] rfl ?_ ?_ <;> simp only [go_sem]
  obtain ⟨B, rfl⟩ : ∃ B : Nat, best = B := ⟨best.toNat, by omega⟩
  obtain ⟨wB, hwB⟩ : ∃ x, w[B]? = some x := ⟨_, List.getElem?_eq_getElem (by omega)⟩
  rw [Int.toNat_natCast, getD_of hwB] at hg
  have d0 : (0:Int) ≤ (B : Int) := by omega
  have d1 : (B : Int) < (w.length : Int) := by omega
  have d2 : B < w.length := by omega
  by_cases hlt : wb < wB
  · rw [if_pos ⟨h6, .inr hlt⟩] at hg
    simp (maxSteps := 1000000) only [k2, k5, q6, hneg, c0, c1, c2, d0, d1, d2, Int.toNat_natCast, getD_map_of hwb, getD_map_of hwB, nRow, hlt, go_sem, setCells, setIn, runW_step]
    refine ⟨by subst hAA; exact allOk_pre aheadPFPlaceS1 (by kernel_rfl) (Nat.le_of_ble_eq_true (by kernel_rfl)) (by kernel_rfl), ?_⟩
    refine vw_cond (t := true) rfl (fun _ => ?_) (fun h => nomatch h)
    refine vw_last rfl ?_; simp only [go_sem, setCells, setIn]
    refine (n_block (n_then ?_))
    refine vw_last rfl ?_; simp only [w1, go_sem, setCells, setIn]
    refine (n_then ?_)
    refine ⟨(b + 1, b), by simp only; omega, ⟨by simp only; omega, by simp only; omega, by simp only; omega, by rw [← hm2] at hg; exact hg⟩, ?_⟩
    refine norm_to [(2, 2)] rfl ?_ ?_ <;> simp only [go_sem]
  · rw [if_neg (fun h => by rcases h.2 with h | h; exact hneg h; exact hlt h)] at hg
    simp (maxSteps := 1000000) only [k2, k5, q6, hneg, c0, c1, c2, d0, d1, d2, Int.toNat_natCast, getD_map_of hwb, getD_map_of hwB, nRow, hlt, go_sem, setCells, setIn, runW_step]
    refine ⟨by subst hAA; exact allOk_pre aheadPFPlaceS1 (by kernel_rfl) (Nat.le_of_ble_eq_true (by kernel_rfl)) (by kernel_rfl), ?_⟩
    refine vw_cond (t := false) rfl (fun h => nomatch h) (fun _ => ?_)
    refine vw_skip (n_block (n_then ?_))
    refine vw_last rfl ?_; simp only [w1, go_sem, setCells, setIn]
    refine (n_then ?_)
    refine ⟨(b + 1, B), by simp only; omega, ⟨by simp only; omega, b1, b2, by rw [← hm2] at hg; exact hg⟩, ?_⟩
    refine norm_to [(2, 2)] rfl ?_ ?_ <;> simp only [go_sem]
theorem runs_9 (p : List ByteArray) (w : List Int) (hp : p.length < 2 ^ 62) (hw : w.length < 2 ^ 62) : Runs Tryz.prog 9 [.agg [.v (.list false 1 (p.map sRow)), .v (.list false 1 (w.map nRow))]] [.one (.v (.int .i64 (nextC p w)))] [] := by
  refine runs_tab (tab := [(0, .agg [.c (.list false 1 (p.map sRow)), .c (.list false 1 (w.map nRow))])]) (rts := []) (n := 8) (k := 2) Tryz.func9 rfl rfl (by simp) rfl (fun t => ?_) rfl ?_
  · rcases t with _ | t <;> rfl
  have rO := runs_25 p w hp hw
  unfold nextC
  refine vw_go rfl ?_; simp only [go_sem, setCells, setIn]
  refine vw_seq ?_
  refine vw_go rfl ?_; simp only [go_sem, setCells, setIn]
  refine ⟨_, _, call_rx [0] Tryz.func25 (rO) rfl rfl rfl rfl rfl rfl rfl (by simp [lendAll, lendC, seek, fresh, nav, rcells, RT.cells, VV.cells, tabE_cons, tabS_cons, ev, take_map_len, sRow_r1, sRow_comp, sRow_clean, nRow_r1, nRow_comp, nRow_clean]) rfl (by simp [rcells, RT.cells, CT.clean, T.clean, sRow_r1, sRow_comp, sRow_clean, nRow_r1, nRow_comp, nRow_clean]) rfl rfl, ?_⟩
  simp only [runH, runX, go_sem, setCells, setIn]
  cases hk : chipOk p w
  · refine vw_cond (t := true) (by simp [ev, tabE_cons, hk]) (fun _ => ?_) (fun h => nomatch h)
    refine vw_go rfl ?_; simp only [go_sem, setCells, setIn]
    exact vw_ret (r_then (e_ret (ret_of rfl rfl (by simp [RB]) rfl rfl)))
  have h60 : p.length = 60 ∧ w.length = 10 := by
    unfold chipOk at hk
    simp only [Bool.and_eq_true, decide_eq_true_eq] at hk
    omega
  refine vw_cond (t := false) (by simp [ev, tabE_cons, hk]) (fun h => nomatch h) (fun _ => ?_)
  refine vw_skip (n_then ?_)
  refine vw_go rfl ?_; simp only [go_sem, setCells, setIn]
  refine ⟨_, _, call_rx [0] Tryz.func26 (runs_26 p w h60.1 h60.2) rfl rfl rfl rfl rfl rfl rfl (by simp [lendAll, lendC, seek, fresh, nav, rcells, RT.cells, VV.cells, tabE_cons, tabS_cons, ev, take_map_len, sRow_r1, sRow_comp, sRow_clean, nRow_r1, nRow_comp, nRow_clean]) rfl (by simp [rcells, RT.cells, CT.clean, T.clean, sRow_r1, sRow_comp, sRow_clean, nRow_r1, nRow_comp, nRow_clean]) rfl rfl, ?_⟩
  simp only [runH, runX, go_sem, setCells, setIn]
  exact vw_ret (e_ret (ret_of rfl rfl (by simp [RB]) rfl rfl))
theorem runs_109 (p : List ByteArray) (w : List Int) (hp : p.length = 60) (hw : w.length = 10) : Runs Tryz.prog 109 [.agg [.v (.list false 1 (p.map sRow)), .v (.list false 1 (w.map nRow))]] [.one (.v (.int .i64 (openF p w)))] [] := by
  refine runs_tab (tab := [(0, .agg [.c (.list false 1 (p.map sRow)), .c (.list false 1 (w.map nRow))])]) (rts := []) (n := 15) (k := 2) Tryz.func109 rfl rfl (by simp) rfl (fun t => ?_) rfl ?_
  · rcases t with _ | t <;> rfl
  have rN := runs_26 p w hp hw
  have hin := nextF_in p w
  unfold openF
  generalize nextF p w = q at rN hin
  refine vw_go rfl ?_; simp only [go_sem, setCells, setIn]
  refine vw_go rfl ?_; simp only [go_sem, setCells, setIn]
  refine ⟨_, _, call_rx [0] Tryz.func26 (rN) rfl rfl rfl rfl rfl rfl rfl (by simp [lendAll, lendC, seek, fresh, nav, rcells, RT.cells, VV.cells, tabE_cons, tabS_cons, ev, take_map_len, sRow_r1, sRow_comp, sRow_clean, nRow_r1, nRow_comp, nRow_clean]) rfl (by simp [rcells, RT.cells, CT.clean, T.clean, sRow_r1, sRow_comp, sRow_clean, nRow_r1, nRow_comp, nRow_clean]) rfl rfl, ?_⟩
  simp only [runH, runX, go_sem, setCells, setIn]
  refine vw_seq ?_
  by_cases h0 : q < 0
  · rw [if_pos (.inl h0)]
    refine vw_go rfl ?_; simp only [h0, go_sem, setCells, setIn]
    refine vw_cond (t := true) rfl (fun _ => ?_) (fun h => nomatch h)
    refine vw_go rfl ?_; simp only [go_sem, setCells, setIn]
    exact vw_ret (r_then (e_ret (ret_of rfl rfl (by simp [RB]) rfl rfl)))
  have e1 : Int.tmod q 6 = q % 6 := Int.tmod_eq_emod_of_nonneg (by omega)
  have e2 : Int.tdiv q 6 = q / 6 := Int.tdiv_eq_ediv_of_nonneg (by omega)
  have v1 : IntKind.wrap .i64 (q % 6) = q % 6 := wrap_i64 (by omega) (by omega)
  have v2 : IntKind.wrap .i64 (q / 6) = q / 6 := wrap_i64 (by omega) (by omega)
  by_cases h6 : q % 6 = 0
  · rw [if_pos (.inr h6)]
    refine vw_go rfl ?_; simp only [h0, e1, v1, h6, go_sem, setCells, setIn]
    refine vw_cond (t := true) rfl (fun _ => ?_) (fun h => nomatch h)
    refine vw_go rfl ?_; simp only [go_sem, setCells, setIn]
    exact vw_ret (r_then (e_ret (ret_of rfl rfl (by simp [RB]) rfl rfl)))
  · rw [if_neg (by rintro (h | h); exact h0 h; exact h6 h)]
    refine vw_go rfl ?_; simp only [h0, e1, v1, h6, go_sem, setCells, setIn]
    refine vw_cond (t := false) rfl (fun h => nomatch h) (fun _ => ?_)
    refine vw_skip (n_then ?_)
    refine vw_go rfl ?_; simp only [e2, v2, go_sem, setCells, setIn]
    exact vw_ret (e_ret (ret_of rfl rfl (by simp [RB]) rfl rfl))
theorem big9 {x : Nat} (h : x ≤ 1000) : ¬ x * (8 + 1) > bigRow := by
  have : x * (8 + 1) ≤ 1000 * (8 + 1) := Nat.mul_le_mul_right _ h
  have h2 : 1000 * (8 + 1) ≤ bigRow := by decide
  omega
theorem runs_11 (p : List ByteArray) (w : List Int) (hp : p.length < 2 ^ 62) (hw : w.length < 2 ^ 62) : Runs Tryz.prog 11 [.agg [.v (.list false 1 (p.map sRow)), .v (.list false 1 (w.map nRow))]] [.one (.v (.list true 1 ((freeB p w).map nRow)))] [] := by
  refine runs_tab (tab := [(0, .agg [.c (.list false 1 (p.map sRow)), .c (.list false 1 (w.map nRow))])]) (rts := []) (n := 29) (k := 2) Tryz.func11 rfl rfl (by simp) rfl (fun t => ?_) rfl ?_
  · rcases t with _ | t <;> rfl
  have rO := runs_25 p w hp hw
  unfold freeB
  have h60 : chipOk p w = true → p.length = 60 ∧ w.length = 10 := fun hk => by
    unfold chipOk at hk
    simp only [Bool.and_eq_true, decide_eq_true_eq] at hk
    omega
  generalize chipOk p w = ok at rO h60
  refine vw_go rfl ?_; simp only [go_sem, setCells, setIn]
  refine vw_go rfl ?_; simp only [range1, List.replicate_succ, List.replicate_zero, List.flatten_cons, List.flatten_nil, List.range_zero, gt_iff_lt, go_sem, setCells, setIn]
  refine vw_seq ?_
  refine vw_go rfl ?_; simp only [go_sem, setCells, setIn]
  refine vw_block ?_
  refine vw_loop_tab (α := Nat × List Int × List Path) (fun x => 10 - x.1) (fun x => ⟨tabE [(1, .ptr 2 [] 0 0 0), (3, .al 3 [] 0 1 0 x.2.1.length), (4, .c (.int .i64 x.1))], tabS [(2, some ⟨true, 2, [[.list false 1 (p.map sRow), .list false 1 (w.map nRow)]], []⟩), (3, some ⟨false, 1, x.2.1.map nRow, x.2.2⟩)], 4⟩)
    (fun x => x.1 ≤ 10 ∧ x.2.1 = freeTo p x.1 ∧ (0 < x.1 → ok = true)) (x := (0, [], [])) ?round ?h0 ?hn
  case h0 => exact ⟨Nat.zero_le _, rfl, fun h => absurd h (Nat.lt_irrefl _)⟩
  case hn =>
    refine norm_to [(2, 2), (65538, 3)] rfl ?_ ?_ <;> simp only [go_sem]
  rintro ⟨b, q, lg⟩ ⟨hb, hq, hok⟩
  simp only at hb hq hok
  have hql := freeTo_len p b
  rw [← hq] at hql
  have bq : List.take q.length (q.map nRow) = q.map nRow := List.take_of_length_le (by simp)
  refine vw_seq ?_
  by_cases hc : (b : Int) < 10
  case neg =>
    obtain rfl : b = 10 := by omega
    rw [hok (by decide), if_pos rfl, ← hq]
    refine vw_go rfl ?_; simp only [hc, go_sem, setCells, setIn]
    refine vw_cond (t := false) rfl (fun h => nomatch h) (fun _ => ?_)
    refine vw_exit (x_then (x_then (x_block (n_then ?_))))
    refine vw_go rfl ?_; simp only [go_sem, setCells, setIn]
    exact vw_ret (e_ret (ret_by rfl rfl (by simp [RB]) rfl (by simp only [takeCs, takeC, go_sem, setCells, setIn])))
  refine vw_go rfl ?_; simp only [hc, go_sem, setCells, setIn]
  refine ⟨_, _, call_rx [0] Tryz.func25 (rO) rfl rfl rfl rfl rfl rfl rfl (by simp [lendAll, lendC, seek, fresh, nav, rcells, RT.cells, VV.cells, tabE_cons, tabS_cons, ev, take_map_len, sRow_r1, sRow_comp, sRow_clean, nRow_r1, nRow_comp, nRow_clean]) rfl (by simp [rcells, RT.cells, CT.clean, T.clean, sRow_r1, sRow_comp, sRow_clean, nRow_r1, nRow_comp, nRow_clean]) rfl rfl, ?_⟩
  cases ok
  case false =>
    obtain rfl : b = 0 := by
      rcases Nat.eq_zero_or_pos b with h | h
      · exact h
      · have := hok h; cases this
    obtain rfl : q = [] := hq
    simp only [runH, runX, hc, go_sem, setCells, setIn]
    refine vw_cond (t := false) rfl (fun h => nomatch h) (fun _ => ?_)
    refine vw_exit (x_then (x_then (x_block (n_then ?_))))
    refine vw_go rfl ?_; simp only [go_sem, setCells, setIn]
    exact vw_ret (e_ret (ret_by rfl rfl (by simp [RB]) rfl (by simp only [takeCs, takeC, go_sem, setCells, setIn])))
  have rC := runs_27 p w (h60 rfl).1 b (by omega)
  have hst : freeTo p (b + 1) = if (clearF p b).1 = 6 then q ++ [(b : Int)] else q := by rw [freeTo, ← hq]
  generalize clearF p b = C at rC hst
  obtain ⟨n, tail⟩ := C
  simp only at rC hst
  have w1 : IntKind.wrap .i64 ((b:Int) + 1) = ((b + 1 : Nat) : Int) := by rw [wrap_i64 (by omega) (by omega)]; rfl
  simp only [runH, runX, hc, go_sem, setCells, setIn]
  refine vw_cond (t := true) rfl (fun _ => ?_) (fun h => nomatch h)
  refine vw_skip (n_then ?_)
  refine vw_seq ?_
  refine vw_block ?_
  refine vw_go rfl ?_; simp only [go_sem, setCells, setIn]
  refine ⟨_, _, call_rx [0, 0] Tryz.func27 (rC) rfl rfl rfl rfl rfl rfl rfl (by simp [lendAll, lendC, seek, fresh, nav, rcells, RT.cells, VV.cells, tabE_cons, tabS_cons, ev, take_map_len, sRow_r1, sRow_comp, sRow_clean, nRow_r1, nRow_comp, nRow_clean]) rfl (by simp [rcells, RT.cells, CT.clean, T.clean, sRow_r1, sRow_comp, sRow_clean, nRow_r1, nRow_comp, nRow_clean]) rfl rfl, ?_⟩
  simp only [runH, runX, go_sem, setCells, setIn]
  by_cases h6 : n = 6
  · have q6 : (n : Int) = 6 := by omega
    rw [if_pos h6] at hst
    have B1 : ¬ (q.length + 1 + 1) * (8 + 1) > bigRow := big9 (by omega)
    refine vw_go rfl ?_; simp only [q6, go_sem, setCells, setIn]
    refine vw_cond (t := true) rfl (fun _ => ?_) (fun h => nomatch h)
    refine vw_last rfl ?_; simp only [bq, B1, range1, List.replicate_succ, List.replicate_zero, List.flatten_cons, List.flatten_nil, List.range_zero, gt_iff_lt, List.drop_length, go_sem, setCells, setIn]
    refine (n_block (n_then ?_))
    refine vw_last rfl ?_; simp only [w1, go_sem, setCells, setIn]
    refine (n_then ?_)
    have e4 : q.map nRow ++ [[.int .i64 (b : Int)]] = (q ++ [(b : Int)]).map nRow := by simp [nRow]
    rw [e4]
    refine ⟨(b + 1, q ++ [(b : Int)], []), by simp only; omega, ⟨by simp only; omega, hst.symm⟩, ?_⟩
    have e5 : q.length + 1 = (q ++ [(b : Int)]).length := by simp
    rw [e5]
    generalize q ++ [(b : Int)] = q'
    refine norm_to [(2, 2), (199684, 3)] rfl ?_ ?_ <;> simp only [go_sem]
  · have q6 : ¬ (n : Int) = 6 := by omega
    rw [if_neg h6] at hst
    refine vw_go rfl ?_; simp only [q6, go_sem, setCells, setIn]
    refine vw_cond (t := false) rfl (fun h => nomatch h) (fun _ => ?_)
    refine vw_skip (n_block (n_then ?_))
    refine vw_last rfl ?_; simp only [w1, go_sem, setCells, setIn]
    refine (n_then ?_)
    refine ⟨(b + 1, q, lg), by simp only; omega, ⟨by simp only; omega, hst.symm⟩, ?_⟩
    refine norm_to [(2, 2), (3, 3)] rfl ?_ ?_ <;> simp only [go_sem]
end Go.Proofs.YtkijdbljnefeaaaGreat
