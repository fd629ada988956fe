/- Mount of both. Size, copy, comparing of numbers, chips, what is mounted. Printed by fcf.py. What is mounted: FtlOk, sectors, volumes of both. Sectors and volumes of both. What the places of a chip are, and what is planned: in plain Lean. -/
import Derived.Test.YtkijdbljnefeaaaGreatDoorPFRepeat
set_option linter.unusedSimpArgs false
set_option linter.unusedVariables false
namespace Go.Proofs.YtkijdbljnefeaaaGreatDoor
open Go.VM Go
set_option maxRecDepth 100000
attribute [local congr] vw_congr runV_congr runH_congr runW_congr runX_congr stuckV_congr stuckX_congr
def upSeq (q r : Int) : Int := if (if r + 1 < q then q else r + 1) < 1000000000 then (if r + 1 < q then q else r + 1) else 1000000000
theorem upSeq_lt (q r : Int) (h1 : 1 ≤ q) (h2 : 1 ≤ r) : 1 ≤ upSeq q r ∧ upSeq q r ≤ 1000000000 := by unfold upSeq; (repeat' split) <;> omega
def mStep (best map : List Int) (q : Int) (k : Nat) (t : ByteArray) : List Int × List Int × Int :=
  if (recReadS t).2 = true then
    (if best.getD (recReadS t).1.1.toNat 0 < (recReadS t).1.2.1 then (best.set (recReadS t).1.1.toNat (recReadS t).1.2.1, map.set (recReadS t).1.1.toNat (k : Int), upSeq q (recReadS t).1.2.1)
     else (best, map, upSeq q (recReadS t).1.2.1))
  else (best, map, q)
def mFrom : List ByteArray → Nat → List Int → List Int → Int → List Int × Int
  | [], _, _, map, q => (map, q)
  | t :: r, k, best, map, q => mFrom r (k + 1) (mStep best map q k t).1 (mStep best map q k t).2.1 (mStep best map q k t).2.2
/-- Where each sector is, and the next number. -/
def mountF (p : List ByteArray) : List Int × Int := mFrom p 0 (List.replicate 26 0) (List.replicate 26 (-1)) 1
theorem mStep_len {best map : List Int} {q : Int} (k : Nat) (t : ByteArray) (hb : best.length = 26) (hm : map.length = 26) (hq : 1 ≤ q ∧ q ≤ 1000000000) :
    (mStep best map q k t).1.length = 26 ∧ (mStep best map q k t).2.1.length = 26 ∧ 1 ≤ (mStep best map q k t).2.2 ∧ (mStep best map q k t).2.2 ≤ 1000000000 := by
  unfold mStep
  split
  · rename_i h
    have hk := recRead_ok h
    simp only [recOkB,inB,Bool.and_eq_true,decide_eq_true_eq] at hk
    have hu := upSeq_lt q (recReadS t).1.2.1 (by omega) (by omega)
    split <;> simp [hb,hm,hu]
  · exact ⟨hb, hm, hq.1, hq.2⟩
theorem rec_range {t : ByteArray} (h : (recReadS t).2 = true) : 0 ≤ (recReadS t).1.1 ∧ (recReadS t).1.1 ≤ 25 ∧ 1 ≤ (recReadS t).1.2.1 ∧ (recReadS t).1.2.1 ≤ 1000000000 ∧ (recReadS t).1.2.2.size ≤ 400 := by
  have hk := recRead_ok h
  simp only [recOkB,inB,Bool.and_eq_true,decide_eq_true_eq] at hk
  omega
theorem runs_47 (p : List ByteArray) (w : List Int) (hp : p.length ≤ 2 ^ 20) (hw : w.length ≤ 2 ^ 20) (hs : ∀ s ∈ p, s.size < 2 ^ 62) : Runs Tryz.prog 47 [.agg [.v (.list false 1 (p.map sRow)), .v (.list false 1 (w.map nRow))]] [.agg [.v (.list true 1 (p.map sRow)), .v (.list true 1 (w.map nRow)), .v (.list true 1 ((mountF p).1.map nRow)), .v (.int .i64 (mountF p).2)]] [] := by
  refine runs_tab (tab := [(0, .agg [.c (.list false 1 (p.map sRow)), .c (.list false 1 (w.map nRow))])]) (rts := []) (n := 62) (k := 2) Tryz.func47 rfl rfl (by simp) rfl (fun t => ?_) rfl ?_
  · rcases t with _ | t <;> rfl
  have r1 := runs_72 p w hp hw
  have r2 := runs_73
  obtain ⟨M0, hM0⟩ : ∃ M0, M0 = List.replicate 26 (-1 : Int) := ⟨_, rfl⟩
  rw [← hM0] at r2
  have hm0 : M0.length = 26 := by rw [hM0]; rfl
  generalize hM : mountF p = M
  have hB : (26 : Int) * (((8:Nat):Int) + 1) ≤ ((bigRow : Nat) : Int) := by simp only [bigRow]; omega
  have qt : (M0.map nRow).take 26 = M0.map nRow := by rw [List.take_of_length_le (by simp [hm0])]
  have qp : (p.map sRow).take p.length = p.map sRow := by rw [List.take_of_length_le (by simp)]
  have qw : (w.map nRow).take w.length = w.map nRow := by rw [List.take_of_length_le (by simp)]
  refine vw_go rfl ?_; simp only [go_sem,setCells,setIn]
  refine vw_go rfl ?_; simp only [range1,List.replicate_succ,List.replicate_zero,List.flatten_cons,List.flatten_nil,List.range_zero,gt_iff_lt,go_sem,setCells,setIn]
  refine ⟨_, _, call_rx [0] Tryz.func72 (r1) rfl rfl rfl rfl rfl rfl rfl (by simp [lendAll,lendC,seek,fresh,nav,rcells,RT.cells,VV.cells,tabE_cons,tabS_cons,ev,take_map_len,sRow_r1,sRow_comp,sRow_clean,nRow_r1,nRow_comp,nRow_clean]) rfl (by simp [rcells,RT.cells,CT.clean,T.clean,sRow_r1,sRow_comp,sRow_clean,nRow_r1,nRow_comp,nRow_clean]) rfl rfl, ?_⟩
  simp only [runH,runX,go_sem,setCells,setIn]
  refine ⟨_, _, call_rx [0, 0] Tryz.func73 (r2) rfl rfl rfl rfl rfl rfl rfl (by simp [lendAll,lendC,seek,fresh,nav,rcells,RT.cells,VV.cells,tabE_cons,tabS_cons,ev,take_map_len,sRow_r1,sRow_comp,sRow_clean,nRow_r1,nRow_comp,nRow_clean,lit]) rfl (by simp [rcells,RT.cells,CT.clean,T.clean,sRow_r1,sRow_comp,sRow_clean,nRow_r1,nRow_comp,nRow_clean,lit]) rfl rfl, ?_⟩
  simp only [runH,runX,hm0,qt,qp,qw,List.length_replicate,List.length_map,go_sem,setCells,setIn]
  refine vw_go rfl ?_; simp only [hB,go_sem,setCells,setIn]
  refine vw_seq ?_
  refine vw_go rfl ?_; simp only [go_sem,setCells,setIn]
  refine vw_block ?_
  refine vw_loop_tab (α := Nat × List Int × List Int × Int) (fun x => p.length - x.1) (fun x => ⟨tabE [(2, .ptr 3 [] 0 0 0), (3, .ptr 4 [] 0 0 0), (4, .al 5 [] 0 1 0 26), (16, .c (.list false 1 (p.map sRow))), (17, .c (.int .i64 p.length)), (18, .c (.int .i64 x.1))],
      tabS [(3, some ⟨true, 4, [[.list true 1 [], .list true 1 [], .list true 1 [], .int .i64 0]], []⟩), (4, some ⟨true, 4, [[.list true 1 (p.map sRow), .list true 1 (w.map nRow), .list true 1 (x.2.2.1.map nRow), .int .i64 x.2.2.2]], [[(0, 0)], [(0, 1)], [(0, 2)]]⟩), (5, some ⟨false, 1, x.2.1.map nRow, []⟩)], 6⟩)
    (fun x => x.1 ≤ p.length ∧ x.2.1.length = 26 ∧ x.2.2.1.length = 26 ∧ (1 ≤ x.2.2.2 ∧ x.2.2.2 ≤ 1000000000) ∧ mFrom (p.drop x.1) x.1 x.2.1 x.2.2.1 x.2.2.2 = M) (x := (0, List.replicate 26 0, M0, 1)) ?round ?h0 ?hn
  case h0 => exact ⟨Nat.zero_le _, rfl, hm0, ⟨Int.le_refl _, by show (1:Int) ≤ 1000000000; omega⟩, by rw [← hM, hM0]; rfl⟩
  case hn =>
    refine norm_to [(1026, 3), (70658, 4), (131074, 5)] rfl ?_ ?_ <;> simp only [go_sem]
    · rfl
  rintro ⟨i, best, map, q⟩ ⟨hi, hb, hm, hq, hF⟩
  simp only at hi hb hm hq hF
  refine vw_go rfl ?_; simp only [go_sem,setCells,setIn]
  refine vw_seq ?_
  refine vw_cond (t := decide ((i : Int) < p.length)) rfl (fun h => ?_) (fun h => ?_)
  case refine_2 =>
    refine vw_exit (x_then (x_then (x_block (n_then ?_))))
    simp only [decide_eq_false_iff_not] at h
    obtain rfl : i = p.length := by omega
    rw [List.drop_length] at hF
    obtain rfl : M = (map, q) := hF.symm
    refine vw_go rfl ?_; simp only [go_sem,setCells,setIn]
    exact vw_ret (e_ret (ret_by rfl rfl (by simp [RB]) rfl (by simp only [takeCs,takeC,go_sem,setCells,setIn])))
  refine vw_skip (n_then ?_)
  rcases get_or p i with ⟨t, ht, hlt⟩ | ⟨_, hge⟩
  case inr => simp only [decide_eq_true_eq] at h; omega
  have c1 : (0:Int) ≤ (i:Int) := by omega
  have c2 : (i:Int) < (p.length : Int) := by omega
  have w2 : IntKind.wrap .i64 ((i:Int) + 1) = ((i + 1 : Nat) : Int) := by rw [wrap_i64 (by omega) (by omega)]; rfl
  have hts := hs t (List.mem_of_getElem? ht)
  rw [drop_of ht, mFrom] at hF
  obtain ⟨l1, l2, l3⟩ := mStep_len i t hb hm hq
  have rR := runs_74 t hts _ rfl
  have hrr := @rec_range t
  unfold mStep at hF l1 l2 l3
  refine vw_seq ?_
  refine vw_block ?_
  refine vw_go rfl ?_; simp only [c1,c2,Int.toNat_natCast,getD_map_of ht,sRow,go_sem,setCells,setIn]
  refine vw_seq ?_
  by_cases hz : t = ⟨#[]⟩
  · have hz' : decide (t = ⟨#[]⟩) = true := decide_eq_true hz
    have hr : (recReadS t).2 = false := by rw [hz, recRead_nil]
    rw [hr] at hF l1 l2 l3
    refine vw_go rfl ?_; simp only [hz',go_sem,setCells,setIn]
    refine vw_cond (t := true) rfl (fun _ => ?_) (fun h => nomatch h)
    refine vw_exit (x_then (x_block (n_then ?_)))
    refine vw_last rfl ?_; simp only [w2,go_sem,setCells,setIn]
    refine (n_then ?_)
    refine ⟨(i + 1, best, map, q), by simp only; omega, ⟨hlt, hb, hm, hq, hF⟩, ?_⟩
    refine norm_to [(3, 3), (4, 4), (5, 5)] rfl ?_ ?_ <;> simp only [go_sem]
  have hz' : decide (t = ⟨#[]⟩) = false := decide_eq_false hz
  refine vw_go rfl ?_; simp only [hz',go_sem,setCells,setIn]
  refine vw_cond (t := false) rfl (fun h => nomatch h) (fun _ => ?_)
  refine vw_skip (n_then ?_)
  refine vw_go rfl ?_; simp only [go_sem,setCells,setIn]
  generalize recReadS t = R at rR hF l1 l2 l3 hrr
  obtain ⟨⟨s, sq, d⟩, ok⟩ := R
  (try simp only at rR)
  (try simp only at hF)
  (try simp only at l1)
  (try simp only at l2)
  (try simp only at l3)
  (try simp only at hrr)
  refine ⟨_, _, call_rd [0] Tryz.func74 (rR) rfl rfl rfl rfl rfl rfl rfl rfl rfl rfl rfl rfl rfl, ?_⟩
  simp only [runH,runX,go_sem,setCells,setIn]
  refine vw_seq ?_
  cases ok
  · (refine vw_go rfl ?_; simp only [go_sem,setCells,setIn])
    refine vw_cond (t := true) rfl (fun _ => ?_) (fun h => nomatch h)
    refine vw_exit (x_then (x_block (n_then ?_)))
    refine vw_last rfl ?_; simp only [w2,go_sem,setCells,setIn]
    refine (n_then ?_)
    refine ⟨(i + 1, best, map, q), by simp only; omega, ⟨hlt, hb, hm, hq, hF⟩, ?_⟩
    refine norm_to [(3, 3), (4, 4), (5, 5)] rfl ?_ ?_ <;> simp only [go_sem]
  obtain ⟨h1, h2, h3, h4, _⟩ := hrr rfl
  obtain ⟨n, rfl⟩ : ∃ n : Nat, s = n := ⟨s.toNat, by omega⟩
  refine vw_go rfl ?_; simp only [go_sem,setCells,setIn]
  refine vw_cond (t := false) rfl (fun h => nomatch h) (fun _ => ?_)
  refine vw_skip (n_then ?_)
  refine vw_seq ?_
  rcases get_or best n with ⟨b, hbn, _⟩ | ⟨_, hge⟩
  case inr => omega
  rcases get_or map n with ⟨m, hmn, _⟩ | ⟨_, hge⟩
  case inr => omega
  have d1 : (0:Int) ≤ (n:Int) := by omega
  have d2 : (n:Int) < ((26 : Nat) : Int) := by omega
  have d3 : n < 26 := by omega
  have d4 : n < best.length := by omega
  have d5 : n < map.length := by omega
  have u1 : IntKind.wrap .i64 (sq + 1) = sq + 1 := wrap_i64 (by omega) (by omega)
  have e1 : (best.map nRow).set n [T.int .i64 sq] = (best.set n sq).map nRow := by rw [List.map_set]
  have e2 : (map.map nRow).set n [T.int .i64 (i : Int)] = (map.set n (i : Int)).map nRow := by rw [List.map_set]
  simp only [Int.toNat_natCast,if_true,getD_of hbn] at hF l1 l2 l3
  have hup : (if (if q < sq + 1 then sq + 1 else q) < 1000000000 then (if q < sq + 1 then sq + 1 else q) else 1000000000) = upSeq q sq := by
    unfold upSeq; (repeat' split) <;> omega
  refine vw_draw mixed rfl rfl ?_; simp only [d1,d2,d3,d4,hb,Int.toNat_natCast,getD_map_of hbn,nRow,go_sem,setCells,setIn]
  refine ⟨by unfold allOk; kernel_rfl, ?_⟩
  by_cases hlt2 : b < sq
  · have hlt2' : decide (b < sq) = true := decide_eq_true hlt2
    rw [if_pos hlt2] at hF l1 l2 l3
    refine vw_cond (t := true) (by simp [ev,tabE_cons,hlt2]) (fun _ => ?_) (fun h => nomatch h)
    refine vw_go rfl ?_; simp only [d1,d2,d3,d4,hb,Int.toNat_natCast,getD_map_of hbn,nRow,e1,go_sem,setCells,setIn]
    refine vw_last rfl ?_; simp only [d1,d2,d3,d5,hm,Int.toNat_natCast,getD_map_of hmn,nRow,e2,go_sem,setCells,setIn]
    refine (n_then ?_)
    refine vw_last rfl ?_; simp only [u1,hup,go_sem,setCells,setIn]
    refine (n_block (n_then ?_))
    refine vw_last rfl ?_; simp only [w2,go_sem,setCells,setIn]
    refine (n_then ?_)
    refine ⟨(i + 1, best.set n sq, map.set n (i : Int), upSeq q sq), by simp only; omega, ⟨hlt, l1, l2, l3, hF⟩, ?_⟩
    refine norm_to [(3, 3), (4, 4), (5, 5)] rfl ?_ ?_ <;> simp only [go_sem]
  · have hlt2' : decide (b < sq) = false := decide_eq_false hlt2
    rw [if_neg hlt2] at hF l1 l2 l3
    refine vw_cond (t := false) (by simp [ev,tabE_cons,hlt2]) (fun h => nomatch h) (fun _ => ?_)
    refine vw_skip (n_then ?_)
    refine vw_last rfl ?_; simp only [u1,hup,go_sem,setCells,setIn]
    refine (n_block (n_then ?_))
    refine vw_last rfl ?_; simp only [w2,go_sem,setCells,setIn]
    refine (n_then ?_)
    refine ⟨(i + 1, best, map, upSeq q sq), by simp only; omega, ⟨hlt, l1, l2, l3, hF⟩, ?_⟩
    refine norm_to [(3, 3), (4, 4), (5, 5)] rfl ?_ ?_ <;> simp only [go_sem]
structure FtlV where
  pages : List ByteArray
  wear : List Int
  map : List Int
  seq : Int
  deriving DecidableEq
def zFtl : FtlV := ⟨[], [], [], 0⟩
def mountC (p : List ByteArray) (w : List Int) : FtlV := if chipOk p w = true then ⟨p, w, (mountF p).1, (mountF p).2⟩ else zFtl
theorem runs_50 (p : List ByteArray) (w : List Int) (hp : p.length ≤ 2 ^ 20) (hw : w.length ≤ 2 ^ 20) (hs : ∀ s ∈ p, s.size < 2 ^ 62) (X : FtlV) (hX : X = mountC p w) : Runs Tryz.prog 50 [.agg [.v (.list false 1 (p.map sRow)), .v (.list false 1 (w.map nRow))]] [.agg [.v (.list true 1 (X.pages.map sRow)), .v (.list true 1 (X.wear.map nRow)), .v (.list true 1 (X.map.map nRow)), .v (.int .i64 X.seq)]] [] := by
  refine runs_tab (tab := [(0, .agg [.c (.list false 1 (p.map sRow)), .c (.list false 1 (w.map nRow))])]) (rts := []) (n := 73) (k := 2) Tryz.func50 rfl rfl (by simp) rfl (fun t => ?_) rfl ?_
  · rcases t with _ | t <;> rfl
  have r0 := runs_51 p w (by omega) (by omega)
  have r1 := runs_75 p w hp hw
  unfold mountC at hX
  have hB : (26 : Int) * (((8:Nat):Int) + 1) ≤ ((bigRow : Nat) : Int) := by simp only [bigRow]; omega
  have qp : (p.map sRow).take p.length = p.map sRow := by rw [List.take_of_length_le (by simp)]
  have qw : (w.map nRow).take w.length = w.map nRow := by rw [List.take_of_length_le (by simp)]
  refine vw_go rfl ?_; simp only [go_sem,setCells,setIn]
  refine vw_seq ?_
  refine vw_go rfl ?_; simp only [go_sem,setCells,setIn]
  refine ⟨_, _, call_rx [0] Tryz.func51 (r0) rfl rfl rfl rfl rfl rfl rfl (by simp [lendAll,lendC,seek,fresh,nav,rcells,RT.cells,VV.cells,tabE_cons,tabS_cons,ev,take_map_len,sRow_r1,sRow_comp,sRow_clean,nRow_r1,nRow_comp,nRow_clean]) rfl (by simp [rcells,RT.cells,CT.clean,T.clean,sRow_r1,sRow_comp,sRow_clean,nRow_r1,nRow_comp,nRow_clean]) rfl rfl, ?_⟩
  cases hk : chipOk p w
  · rw [hk] at hX
    obtain rfl : X = ⟨[], [], [], 0⟩ := hX
    simp only [runH,runX,go_sem,setCells,setIn]
    refine vw_cond (t := true) rfl (fun _ => ?_) (fun h => nomatch h)
    refine vw_go rfl ?_; simp only [go_sem,setCells,setIn]
    exact vw_ret (r_then (e_ret (ret_by rfl rfl (by simp [RB]) rfl (by simp only [takeCs,takeC,go_sem,setCells,setIn]))))
  rw [hk] at hX
  obtain rfl : X = ⟨p, w, (mountF p).1, (mountF p).2⟩ := hX
  generalize hM : mountF p = M
  simp only [runH,runX,go_sem,setCells,setIn]
  refine vw_cond (t := false) rfl (fun h => nomatch h) (fun _ => ?_)
  refine vw_skip (n_then ?_)
  refine vw_go rfl ?_; simp only [go_sem,setCells,setIn]
  refine ⟨_, _, call_rx [0] Tryz.func75 (r1) rfl rfl rfl rfl rfl rfl rfl (by simp [lendAll,lendC,seek,fresh,nav,rcells,RT.cells,VV.cells,tabE_cons,tabS_cons,ev,take_map_len,sRow_r1,sRow_comp,sRow_clean,nRow_r1,nRow_comp,nRow_clean]) rfl (by simp [rcells,RT.cells,CT.clean,T.clean,sRow_r1,sRow_comp,sRow_clean,nRow_r1,nRow_comp,nRow_clean]) rfl rfl, ?_⟩
  simp only [runH,runX,qp,qw,List.length_map,go_sem,setCells,setIn]
  refine vw_go rfl ?_; simp only [hB,go_sem,setCells,setIn]
  refine vw_seq ?_
  refine vw_go rfl ?_; simp only [go_sem,setCells,setIn]
  refine vw_block ?_
  refine vw_loop_tab (α := Nat × List Path) (fun x => 26 - x.1) (fun x => ⟨tabE [(1, .ptr 2 [] 0 0 0), (2, .ptr 3 [] 0 0 0), (3, .ptr 4 [] 0 0 0), (4, .al 5 [] 0 1 0 26), (5, .c (.int .i64 x.1))],
      tabS [(2, some ⟨true, 2, [[.list false 1 (p.map sRow), .list false 1 (w.map nRow)]], []⟩), (3, some ⟨true, 4, [[.list true 1 [], .list true 1 [], .list true 1 [], .int .i64 0]], []⟩), (4, some ⟨true, 4, [[.list true 1 (p.map sRow), .list true 1 (w.map nRow), .list true 1 ((List.replicate x.1 (-1)).map nRow), .int .i64 1]], x.2⟩), (5, some ⟨false, 1, (List.replicate 26 0).map nRow, []⟩)], 6⟩)
    (fun x => x.1 ≤ 26) (x := (0, [[(0, 0)], [(0, 1)], [(0, 2)]])) ?round ?h0 ?hn
  case h0 => exact Nat.zero_le _
  case hn =>
    refine norm_to [(2, 2), (1026, 3), (134146, 4), (196610, 5)] rfl ?_ ?_ <;> simp only [go_sem]
    · exact ⟨rfl, rfl⟩
  rintro ⟨i, lg⟩ hi
  simp only at hi
  refine vw_seq ?_
  by_cases hc : (i : Int) < 26
  · have B : ¬ (i + 1 + 1) * (8 + 1) > bigRow := by simp only [bigRow]; omega
    have w2 : IntKind.wrap .i64 ((i:Int) + 1) = ((i + 1 : Nat) : Int) := by rw [wrap_i64 (by omega) (by omega)]; rfl
    have ql : ((List.replicate i (-1 : Int)).map nRow).length = i := by simp
    have qt : ((List.replicate i (-1 : Int)).map nRow).take i = (List.replicate i (-1)).map nRow := by rw [List.take_of_length_le (by simp)]
    refine vw_go rfl ?_; simp only [hc,go_sem,setCells,setIn]
    refine vw_cond (t := true) rfl (fun _ => ?_) (fun h => nomatch h)
    refine vw_skip (n_then ?_)
    refine vw_seq ?_
    refine vw_block ?_
    refine vw_last rfl ?_
    simp only [B,range1,List.replicate_succ,List.replicate_zero,List.flatten_cons,List.flatten_nil,List.range_zero,gt_iff_lt,qt,List.length_replicate,List.drop_length,List.length_append,go_sem,setCells,setIn]
    refine (n_block (n_then ?_))
    refine vw_last rfl ?_; simp only [w2,go_sem,setCells,setIn]
    refine (n_then ?_)
    refine ⟨(i + 1, lg ++ [[(0, 2)]]), by simp only; omega, by simp only; omega, ?_⟩
    refine norm_to [(2, 2), (3, 3), (4, 4), (5, 5)] rfl ?_ ?_ <;> simp only [go_sem]
    · simp only [List.replicate_succ',List.map_append,List.map_cons,List.map_nil]; rw [List.take_of_length_le (by simp)]
  obtain rfl : i = 26 := by omega
  obtain ⟨M0, hM0⟩ : ∃ M0, M0 = List.replicate 26 (-1 : Int) := ⟨_, rfl⟩
  rw [← hM0]
  have hm0 : M0.length = 26 := by rw [hM0]; rfl
  refine vw_go rfl ?_; simp only [Int.lt_irrefl,go_sem,setCells,setIn]
  refine vw_cond (t := false) rfl (fun h => nomatch h) (fun _ => ?_)
  refine vw_exit (x_then (x_then (x_block (n_then ?_))))
  refine vw_seq ?_
  refine vw_go rfl ?_; simp only [go_sem,setCells,setIn]
  refine vw_block ?_
  refine vw_loop_tab (α := Nat × List Int × List Int × Int) (fun x => p.length - x.1) (fun x => ⟨tabE [(1, .ptr 2 [] 0 0 0), (2, .ptr 3 [] 0 0 0), (3, .ptr 4 [] 0 0 0), (4, .al 5 [] 0 1 0 26), (6, .c (.int .i64 x.1))],
      tabS [(2, some ⟨true, 2, [[.list false 1 (p.map sRow), .list false 1 (w.map nRow)]], []⟩), (3, some ⟨true, 4, [[.list true 1 [], .list true 1 [], .list true 1 [], .int .i64 0]], []⟩), (4, some ⟨true, 4, [[.list true 1 (p.map sRow), .list true 1 (w.map nRow), .list true 1 (x.2.2.1.map nRow), .int .i64 x.2.2.2]], lg⟩), (5, some ⟨false, 1, x.2.1.map nRow, []⟩)], 6⟩)
    (fun x => x.1 ≤ p.length ∧ x.2.1.length = 26 ∧ x.2.2.1.length = 26 ∧ (1 ≤ x.2.2.2 ∧ x.2.2.2 ≤ 1000000000) ∧ mFrom (p.drop x.1) x.1 x.2.1 x.2.2.1 x.2.2.2 = M) (x := (0, List.replicate 26 0, M0, 1)) ?round2 ?h02 ?hn2
  case h02 => exact ⟨Nat.zero_le _, rfl, hm0, ⟨Int.le_refl _, by show (1:Int) ≤ 1000000000; omega⟩, by rw [← hM, hM0]; rfl⟩
  case hn2 =>
    refine norm_to [(2, 2), (3, 3), (4, 4), (5, 5)] rfl ?_ ?_ <;> simp only [go_sem]
  rintro ⟨i, best, map, q⟩ ⟨hi, hb, hm, hq, hF⟩
  simp only at hi hb hm hq hF
  refine vw_seq ?_
  refine vw_go rfl ?_; simp only [go_sem,setCells,setIn]
  refine vw_cond (t := decide ((i : Int) < p.length)) rfl (fun h => ?_) (fun h => ?_)
  case refine_2 =>
    refine vw_exit (x_then (x_then (x_block (n_then ?_))))
    simp only [decide_eq_false_iff_not] at h
    obtain rfl : i = p.length := by omega
    rw [List.drop_length] at hF
    obtain rfl : M = (map, q) := hF.symm
    refine vw_go rfl ?_
    simp only [List.drop_length,go_sem,setCells,setIn]
    exact vw_ret (e_ret (ret_by rfl rfl (by simp [RB]) rfl (by simp only [takeCs,takeC,go_sem,setCells,setIn])))
  refine vw_skip (n_then ?_)
  rcases get_or p i with ⟨t, ht, hlt⟩ | ⟨_, hge⟩
  case inr => simp only [decide_eq_true_eq] at h; omega
  have c1 : (0:Int) ≤ (i:Int) := by omega
  have c2 : (i:Int) < (p.length : Int) := by omega
  have w2 : IntKind.wrap .i64 ((i:Int) + 1) = ((i + 1 : Nat) : Int) := by rw [wrap_i64 (by omega) (by omega)]; rfl
  have hts := hs t (List.mem_of_getElem? ht)
  rw [drop_of ht, mFrom] at hF
  obtain ⟨l1, l2, l3⟩ := mStep_len i t hb hm hq
  have rR := runs_76 t hts _ rfl
  have hrr := @rec_range t
  unfold mStep at hF l1 l2 l3
  refine vw_seq ?_
  refine vw_block ?_
  refine vw_go rfl ?_; simp only [c1,c2,Int.toNat_natCast,getD_map_of ht,sRow,go_sem,setCells,setIn]
  generalize recReadS t = R at rR hF l1 l2 l3 hrr
  obtain ⟨⟨s, sq, d⟩, ok⟩ := R
  (try simp only at rR)
  (try simp only at hF)
  (try simp only at l1)
  (try simp only at l2)
  (try simp only at l3)
  (try simp only at hrr)
  refine ⟨_, _, call_rd [0] Tryz.func76 (rR) rfl rfl rfl rfl rfl rfl rfl rfl rfl rfl rfl rfl rfl, ?_⟩
  simp only [runH,runX,go_sem,setCells,setIn]
  refine vw_seq ?_
  cases ok
  · (refine vw_go rfl ?_; simp only [go_sem,setCells,setIn])
    refine vw_cond (t := true) rfl (fun _ => ?_) (fun h => nomatch h)
    refine vw_exit (x_then (x_block (n_then ?_)))
    refine vw_last rfl ?_; simp only [w2,go_sem,setCells,setIn]
    refine (n_then ?_)
    refine ⟨(i + 1, best, map, q), by simp only; omega, ⟨hlt, hb, hm, hq, hF⟩, ?_⟩
    refine norm_to [(2, 2), (3, 3), (4, 4), (5, 5)] rfl ?_ ?_ <;> simp only [go_sem]
  obtain ⟨h1, h2, h3, h4, _⟩ := hrr rfl
  obtain ⟨n, rfl⟩ : ∃ n : Nat, s = n := ⟨s.toNat, by omega⟩
  refine vw_go rfl ?_; simp only [go_sem,setCells,setIn]
  refine vw_cond (t := false) rfl (fun h => nomatch h) (fun _ => ?_)
  refine vw_skip (n_then ?_)
  refine vw_seq ?_
  rcases get_or best n with ⟨b, hbn, _⟩ | ⟨_, hge⟩
  case inr => omega
  rcases get_or map n with ⟨m, hmn, _⟩ | ⟨_, hge⟩
  case inr => omega
  have d1 : (0:Int) ≤ (n:Int) := by omega
  have d2 : (n:Int) < ((26 : Nat) : Int) := by omega
  have d3 : n < 26 := by omega
  have u1 : IntKind.wrap .i64 (sq + 1) = sq + 1 := wrap_i64 (by omega) (by omega)
  have e1 : (best.map nRow).set n [T.int .i64 sq] = (best.set n sq).map nRow := by rw [List.map_set]
  have e2 : (map.map nRow).set n [T.int .i64 (i : Int)] = (map.set n (i : Int)).map nRow := by rw [List.map_set]
  simp only [Int.toNat_natCast,if_true,getD_of hbn] at hF l1 l2 l3
  have rX := runs_78 q (sq + 1)
  have rN := runs_77 (if sq + 1 < q then q else sq + 1) 1000000000
  rw [show (if (if sq + 1 < q then q else sq + 1) < 1000000000 then (if sq + 1 < q then q else sq + 1) else 1000000000) = upSeq q sq from rfl] at rN
  refine vw_draw mixed rfl rfl ?_; simp only [d1,d2,d3,hb,Int.toNat_natCast,getD_map_of hbn,nRow,go_sem,setCells,setIn]
  refine ⟨by unfold allOk; kernel_rfl, ?_⟩
  by_cases hlt2 : b < sq
  · rw [if_pos hlt2] at hF l1 l2 l3
    refine vw_cond (t := true) (by simp [ev,tabE_cons,hlt2]) (fun _ => ?_) (fun h => nomatch h)
    refine vw_go rfl ?_; simp only [d1,d2,d3,hb,Int.toNat_natCast,getD_map_of hbn,nRow,e1,go_sem,setCells,setIn]
    refine vw_last rfl ?_
    simp only [d1,d2,d3,hm,Int.toNat_natCast,getD_map_of hmn,nRow,e2,List.drop_length,go_sem,setCells,setIn]
    refine (n_then ?_)
    refine vw_last rfl ?_; simp only [u1,go_sem,setCells,setIn]
    refine ⟨_, _, call_rd [0, 0] Tryz.func78 (rX) rfl rfl rfl rfl rfl rfl rfl rfl rfl rfl rfl rfl rfl, ?_⟩
    simp only [runH,runX,go_sem,setCells,setIn]
    refine ⟨_, _, call_rd [0, 0] Tryz.func77 (rN) rfl rfl rfl rfl rfl rfl rfl rfl rfl rfl rfl rfl rfl, ?_⟩
    simp only [runH,runX,go_sem,setCells,setIn]
    refine (n_block (n_then ?_))
    refine vw_last rfl ?_; simp only [w2,go_sem,setCells,setIn]
    refine (n_then ?_)
    refine ⟨(i + 1, best.set n sq, map.set n (i : Int), upSeq q sq), by simp only; omega, ⟨hlt, l1, l2, l3, hF⟩, ?_⟩
    refine norm_to [(2, 2), (3, 3), (4, 4), (5, 5)] rfl ?_ ?_ <;> simp only [go_sem]
  · rw [if_neg hlt2] at hF l1 l2 l3
    refine vw_cond (t := false) (by simp [ev,tabE_cons,hlt2]) (fun h => nomatch h) (fun _ => ?_)
    refine vw_skip (n_then ?_)
    refine vw_last rfl ?_; simp only [u1,go_sem,setCells,setIn]
    refine ⟨_, _, call_rd [0, 0] Tryz.func78 (rX) rfl rfl rfl rfl rfl rfl rfl rfl rfl rfl rfl rfl rfl, ?_⟩
    simp only [runH,runX,go_sem,setCells,setIn]
    refine ⟨_, _, call_rd [0, 0] Tryz.func77 (rN) rfl rfl rfl rfl rfl rfl rfl rfl rfl rfl rfl rfl rfl, ?_⟩
    simp only [runH,runX,go_sem,setCells,setIn]
    refine (n_block (n_then ?_))
    refine vw_last rfl ?_; simp only [w2,go_sem,setCells,setIn]
    refine (n_then ?_)
    refine ⟨(i + 1, best, map, upSeq q sq), by simp only; omega, ⟨hlt, l1, l2, l3, hF⟩, ?_⟩
    refine norm_to [(2, 2), (3, 3), (4, 4), (5, 5)] rfl ?_ ?_ <;> simp only [go_sem]
end Go.Proofs.YtkijdbljnefeaaaGreatDoor
namespace Go.Proofs.YtkijdbljnefeaaaGreatDoor
open Go.VM Go
set_option maxRecDepth 100000
attribute [local congr] vw_congr runV_congr runH_congr runW_congr runX_congr stuckV_congr stuckX_congr
structure ChipV where
  pages : List ByteArray
  wear : List Int
  deriving DecidableEq
def ChipV.ok (x : ChipV) : Prop := (x.pages.length < 2 ^ 63 ∧ ∀ y ∈ x.pages, y.size < 2 ^ 63) ∧ x.wear.length < 2 ^ 63
def FtlV.chip (x : FtlV) : ChipV := ⟨x.pages, x.wear⟩
def FtlV.ok (x : FtlV) : Prop := x.chip.ok ∧ x.map.length < 2 ^ 63
end Go.Proofs.YtkijdbljnefeaaaGreatDoor
namespace Go.Proofs.YtkijdbljnefeaaaGreatDoor
open Go.VM Go
set_option maxRecDepth 100000
attribute [local congr] vw_congr runV_congr runH_congr runW_congr runX_congr stuckV_congr stuckX_congr
theorem mStep_inv {best map : List Int} {q : Int} {k : Nat} {t : ByteArray} {p : List ByteArray} (hm : map.length = 26) (hk : p[k]? = some t)
    (h : ∀ (n : Nat) m, map[n]? = some m → m = -1 ∨ ∃ (j : Nat) (u : ByteArray), m = (j : Int) ∧ p[j]? = some u ∧ (recReadS u).2 = true ∧ (recReadS u).1.1 = n) :
    ∀ (n : Nat) m, (mStep best map q k t).2.1[n]? = some m → m = -1 ∨ ∃ (j : Nat) (u : ByteArray), m = (j : Int) ∧ p[j]? = some u ∧ (recReadS u).2 = true ∧ (recReadS u).1.1 = n := by
  intro n m hn
  unfold mStep at hn
  split at hn
  · rename_i hok
    obtain ⟨h1, h2, _⟩ := rec_range hok
    split at hn
    · simp only [List.getElem?_set] at hn
      split at hn
      · rename_i e
        split at hn
        · cases hn
          exact .inr ⟨k, t, rfl, hk, hok, by omega⟩
        · cases hn
      · exact h n m hn
    · exact h n m hn
  · exact h n m hn
theorem mFrom_inv {p : List ByteArray} : ∀ (r : List ByteArray) (k : Nat) (best map : List Int) (q : Int), best.length = 26 → map.length = 26 → (1 ≤ q ∧ q ≤ 1000000000) → p.drop k = r →
    (∀ (n : Nat) m, map[n]? = some m → m = -1 ∨ ∃ (j : Nat) (u : ByteArray), m = (j : Int) ∧ p[j]? = some u ∧ (recReadS u).2 = true ∧ (recReadS u).1.1 = n) →
    (mFrom r k best map q).1.length = 26 ∧ (1 ≤ (mFrom r k best map q).2 ∧ (mFrom r k best map q).2 ≤ 1000000000) ∧
    ∀ (n : Nat) m, (mFrom r k best map q).1[n]? = some m → m = -1 ∨ ∃ (j : Nat) (u : ByteArray), m = (j : Int) ∧ p[j]? = some u ∧ (recReadS u).2 = true ∧ (recReadS u).1.1 = n
  | [], k, best, map, q, hb, hm, hq, hr, h => ⟨hm, hq, h⟩
  | t :: r, k, best, map, q, hb, hm, hq, hr, h => by
    have hk : p[k]? = some t := by
      have : (p.drop k)[0]? = some t := by rw [hr]; rfl
      rw [List.getElem?_drop] at this; simpa using this
    have hr' : p.drop (k + 1) = r := by
      have := drop_of hk
      rw [hr] at this
      exact (List.cons.inj this).2.symm
    obtain ⟨l1, l2, l3⟩ := mStep_len k t hb hm hq
    exact mFrom_inv r (k + 1) _ _ _ l1 l2 l3 hr' (mStep_inv hm hk h)
theorem mount_inv (p : List ByteArray) : (mountF p).1.length = 26 ∧ (1 ≤ (mountF p).2 ∧ (mountF p).2 ≤ 1000000000) ∧
    ∀ (n : Nat) m, (mountF p).1[n]? = some m → m = -1 ∨ ∃ (j : Nat) (u : ByteArray), m = (j : Int) ∧ p[j]? = some u ∧ (recReadS u).2 = true ∧ (recReadS u).1.1 = n := by
  refine mFrom_inv p 0 _ _ _ rfl rfl (by omega) rfl (fun n m h => .inl ?_)
  rw [List.getElem?_replicate] at h
  split at h <;> simp_all
def ftlOk (f : FtlV) : Bool := chipOk f.pages f.wear && (decide (f.map = (mountF f.pages).1) && decide (f.seq = (mountF f.pages).2))
structure FtlV.small (f : FtlV) : Prop where
  pages : f.pages.length ≤ 2 ^ 20
  wear : f.wear.length ≤ 2 ^ 20
  map : f.map.length ≤ 2 ^ 20
  text : ∀ s ∈ f.pages, s.size < 2 ^ 62
theorem runs_52 (l m : List Int) (hl : l.length < 2 ^ 62) (hm : m.length < 2 ^ 62) :
    Runs Tryz.prog 52 [.one (.v (.list false 1 (l.map nRow))), .one (.v (.list false 1 (m.map nRow)))] [.one (.v (.bool (decide (l = m))))] [] := by
  refine runs_tab (tab := [(0, .c (.list false 1 (l.map nRow))), (1, .c (.list false 1 (m.map nRow)))]) (rts := []) (n := 32) (k := 2) Tryz.func52 rfl rfl (by simp) rfl (fun t => ?_) rfl ?_
  · rcases t with _ | _ | t <;> rfl
  refine vw_go rfl ?_; simp only [go_sem,setCells,setIn]
  refine vw_seq ?_
  refine vw_go rfl ?_; simp only [go_sem,setCells,setIn]
  refine vw_block ?_
  refine vw_loop_tab (α := Nat) (fun x => m.length - x) (fun x => ⟨tabE [(0, .c (.list false 1 (l.map nRow))), (1, .c (.list false 1 (m.map nRow))), (5, .c (.int .i64 x))], tabS [], 2⟩)
    (fun x => x ≤ l.length ∧ x ≤ m.length ∧ l.take x = m.take x) (x := 0) ?round ?h0 ?hn
  case h0 => exact ⟨Nat.zero_le _, Nat.zero_le _, rfl⟩
  case hn => (refine norm_to [] rfl ?_ ?_ <;> simp only [go_sem])
  rintro i ⟨hi, hi2, he⟩
  refine vw_seq ?_
  rcases get_or l i with ⟨x, hx, hlt⟩ | ⟨_, hge⟩
  · rcases get_or m i with ⟨y, hy, hlt2⟩ | ⟨_, hge⟩
    · have c1 : (0:Int) ≤ (i:Int) := by omega
      have c2 : (i:Int) < (l.length : Int) := by omega
      have c3 : (i:Int) < (m.length : Int) := by omega
      have w2 : IntKind.wrap .i64 ((i:Int) + 1) = ((i + 1 : Nat) : Int) := by rw [wrap_i64 (by omega) (by omega)]; rfl
      refine vw_go rfl ?_; simp only [c2,c3,go_sem,setCells,setIn]
      refine vw_cond (t := true) rfl (fun _ => ?_) (fun h => nomatch h)
      refine vw_skip (n_then ?_)
      refine vw_seq ?_
      refine vw_block ?_
      refine vw_draw mixed rfl rfl ?_; simp only [c1,c2,c3,Int.toNat_natCast,getD_map_of hx,getD_map_of hy,nRow,go_sem,setCells,setIn]
      refine ⟨by unfold allOk; kernel_rfl, ?_⟩
      refine vw_cond (t := !decide (x = y)) rfl (fun h => ?_) (fun h => ?_)
      · have h' : ¬ x = y := by simpa using h
        refine vw_go rfl ?_; simp only [go_sem,setCells,setIn]
        rw [show decide (l = m) = false from decide_eq_false (fun e => h' (by rw [e] at hx; rw [hx] at hy; exact Option.some.inj hy))]
        exact vw_ret (r_block (r_then (r_then (r_block (r_then (e_ret (ret_of rfl rfl (by simp [RB]) rfl rfl)))))))
      · have h' : x = y := by simpa using h
        refine vw_skip (n_block (n_then ?_))
        refine vw_last rfl ?_; simp only [w2,go_sem,setCells,setIn]
        refine (n_then ?_)
        refine ⟨i + 1, by omega, ⟨hlt, hlt2, by rw [List.take_add_one, List.take_add_one, he, hx, hy, h']⟩, ?_⟩
        refine norm_to [] rfl ?_ ?_ <;> simp only [go_sem]
    · have c2 : (i:Int) < (l.length : Int) := by omega
      have c3 : ((i:Int) < (m.length : Int)) = False := eq_false (by omega)
      have c4 : ((l.length : Int) = (m.length : Int)) = False := eq_false (by omega)
      refine vw_go rfl ?_; simp only [c2,c3,go_sem,setCells,setIn]
      refine vw_cond (t := false) rfl (fun h => nomatch h) (fun _ => ?_)
      refine vw_exit (x_then (x_then (x_block (n_then ?_))))
      refine vw_go rfl ?_; simp only [c4,go_sem,setCells,setIn]
      rw [show decide (l = m) = false from decide_eq_false (fun e => by rw [e] at hlt; omega)]
      exact vw_ret (e_ret (ret_of rfl rfl (by simp [RB]) rfl rfl))
  · have c2 : ((i:Int) < (l.length : Int)) = False := eq_false (by omega)
    refine vw_go rfl ?_; simp only [c2,go_sem,setCells,setIn]
    refine vw_cond (t := false) rfl (fun h => nomatch h) (fun _ => ?_)
    refine vw_exit (x_then (x_then (x_block (n_then ?_))))
    obtain rfl : i = l.length := by omega
    rw [List.take_length] at he
    refine vw_go rfl ?_; simp only [go_sem,setCells,setIn]
    rw [show decide ((l.length : Int) = (m.length : Int)) = decide (l = m) from decide_eq_decide.2 ⟨fun h => by rw [he, List.take_of_length_le (by omega)], fun h => by rw [h]⟩]
    exact vw_ret (e_ret (ret_of rfl rfl (by simp [RB]) rfl rfl))
theorem runs_22 (f : FtlV) (hf : f.small) : Runs Tryz.prog 22 [.agg [.v (.list false 1 (f.pages.map sRow)), .v (.list false 1 (f.wear.map nRow)), .v (.list false 1 (f.map.map nRow)), .v (.int .i64 f.seq)]] [.one (.v (.bool (ftlOk f)))] [] := by
  refine runs_tab (tab := [(0, .agg [.c (.list false 1 (f.pages.map sRow)), .c (.list false 1 (f.wear.map nRow)), .c (.list false 1 (f.map.map nRow)), .c (.int .i64 f.seq)])]) (rts := []) (n := 23) (k := 4) Tryz.func22 rfl rfl (by simp) rfl (fun t => ?_) rfl ?_
  · cases t <;> rfl
  have r1 := runs_46 f.pages f.wear (by have := hf.pages; omega) (by have := hf.wear; omega)
  have r2 := runs_47 f.pages f.wear hf.pages hf.wear hf.text
  obtain ⟨m1, m2, m3⟩ := mount_inv f.pages
  have r3 := runs_48 f.map (mountF f.pages).1 (by have := hf.map; omega) (by omega)
  have hR : ftlOk f = (chipOk f.pages f.wear && (decide (f.map = (mountF f.pages).1) && decide (f.seq = (mountF f.pages).2))) := rfl
  rw [hR]
  generalize mountF f.pages = M at r2 r3 m1
  obtain ⟨mm, mq⟩ := M
  (try simp only at r2)
  (try simp only at r3)
  simp only
  have hp := hf.pages
  have hw := hf.wear
  have qp : (f.pages.map sRow).take f.pages.length = f.pages.map sRow := by rw [List.take_of_length_le (by simp)]
  have qw : (f.wear.map nRow).take f.wear.length = f.wear.map nRow := by rw [List.take_of_length_le (by simp)]
  have qm : (mm.map nRow).take mm.length = mm.map nRow := by rw [List.take_of_length_le (by simp)]
  refine vw_go rfl ?_; simp only [go_sem,setCells,setIn]
  refine vw_seq ?_
  refine vw_go rfl ?_; simp only [go_sem,setCells,setIn]
  refine ⟨_, _, call_rx [0] Tryz.func46 (r1) rfl rfl rfl rfl rfl rfl rfl (by simp [lendAll,lendC,seek,fresh,nav,rcells,RT.cells,VV.cells,tabE_cons,tabS_cons,ev,take_map_len,sRow_r1,sRow_comp,sRow_clean,nRow_r1,nRow_comp,nRow_clean]) rfl (by simp [rcells,RT.cells,CT.clean,T.clean,sRow_r1,sRow_comp,sRow_clean,nRow_r1,nRow_comp,nRow_clean]) rfl rfl, ?_⟩
  cases hk : chipOk f.pages f.wear
  · simp only [runH,runX,go_sem,setCells,setIn]
    refine vw_cond (t := true) rfl (fun _ => ?_) (fun h => nomatch h)
    refine vw_go rfl ?_; simp only [go_sem,setCells,setIn]
    exact vw_ret (r_then (e_ret (ret_of rfl rfl (by simp [RB]) rfl rfl)))
  simp only [runH,runX,go_sem,setCells,setIn]
  refine vw_cond (t := false) rfl (fun h => nomatch h) (fun _ => ?_)
  refine vw_skip (n_then ?_)
  refine vw_go rfl ?_; simp only [go_sem,setCells,setIn]
  refine ⟨_, _, call_rx [0] Tryz.func47 (r2) rfl rfl rfl rfl rfl rfl rfl (by simp [lendAll,lendC,seek,fresh,nav,rcells,RT.cells,VV.cells,tabE_cons,tabS_cons,ev,take_map_len,sRow_r1,sRow_comp,sRow_clean,nRow_r1,nRow_comp,nRow_clean]) rfl (by simp [rcells,RT.cells,CT.clean,T.clean,sRow_r1,sRow_comp,sRow_clean,nRow_r1,nRow_comp,nRow_clean]) rfl rfl, ?_⟩
  simp only [runH,runX,qp,qw,qm,List.length_map,go_sem,setCells,setIn]
  refine vw_go rfl ?_; simp only [go_sem,setCells,setIn]
  refine ⟨_, _, call_rx [0, 0] Tryz.func48 (r3) rfl rfl rfl rfl rfl rfl rfl (by simp [lendAll,lendC,seek,fresh,nav,rcells,RT.cells,VV.cells,tabE_cons,tabS_cons,ev,take_map_len,sRow_r1,sRow_comp,sRow_clean,nRow_r1,nRow_comp,nRow_clean]) rfl (by simp [rcells,RT.cells,CT.clean,T.clean,sRow_r1,sRow_comp,sRow_clean,nRow_r1,nRow_comp,nRow_clean]) rfl rfl, ?_⟩
  by_cases he : f.map = mm
  · simp only [runH,runX,he,go_sem,setCells,setIn]
    exact vw_ret (e_ret (ret_of rfl rfl (by simp [RB]) rfl rfl))
  · simp only [runH,runX,he,go_sem,setCells,setIn]
    exact vw_ret (e_ret (ret_of rfl rfl (by simp [RB]) rfl rfl))
theorem runs_25 (f : FtlV) (hf : f.small) : Runs Tryz.prog 25 [.agg [.v (.list false 1 (f.pages.map sRow)), .v (.list false 1 (f.wear.map nRow)), .v (.list false 1 (f.map.map nRow)), .v (.int .i64 f.seq)]] [.one (.v (.bool (ftlOk f)))] [] := by
  refine runs_tab (tab := [(0, .agg [.c (.list false 1 (f.pages.map sRow)), .c (.list false 1 (f.wear.map nRow)), .c (.list false 1 (f.map.map nRow)), .c (.int .i64 f.seq)])]) (rts := []) (n := 24) (k := 4) Tryz.func25 rfl rfl (by simp) rfl (fun t => ?_) rfl ?_
  · cases t <;> rfl
  have r1 := runs_51 f.pages f.wear (by have := hf.pages; omega) (by have := hf.wear; omega)
  have r2 := runs_50 f.pages f.wear hf.pages hf.wear hf.text _ rfl
  obtain ⟨m1, m2, m3⟩ := mount_inv f.pages
  have hR : ftlOk f = (chipOk f.pages f.wear && (decide ((mountF f.pages).1 = f.map) && decide ((mountF f.pages).2 = f.seq))) := by
    unfold ftlOk
    rw [show decide (f.map = (mountF f.pages).1) = decide ((mountF f.pages).1 = f.map) from decide_eq_decide.2 eq_comm, show decide (f.seq = (mountF f.pages).2) = decide ((mountF f.pages).2 = f.seq) from decide_eq_decide.2 eq_comm]
  rw [hR]
  unfold mountC at r2
  generalize mountF f.pages = M at r2 m1
  obtain ⟨mm, mq⟩ := M
  have r3 := runs_52 mm f.map (by simp only at m1; omega) (by have := hf.map; omega)
  simp only
  obtain ⟨Y, hY⟩ : ∃ Y, Y = (if chipOk f.pages f.wear = true then (⟨f.pages, f.wear, mm, mq⟩ : FtlV) else zFtl) := ⟨_, rfl⟩
  (try simp only at r2)
  rw [← hY] at r2
  have qp : (Y.pages.map sRow).take Y.pages.length = Y.pages.map sRow := by rw [List.take_of_length_le (by simp)]
  have qw : (Y.wear.map nRow).take Y.wear.length = Y.wear.map nRow := by rw [List.take_of_length_le (by simp)]
  have qm : (Y.map.map nRow).take Y.map.length = Y.map.map nRow := by rw [List.take_of_length_le (by simp)]
  refine vw_go rfl ?_; simp only [go_sem,setCells,setIn]
  refine vw_go rfl ?_; simp only [go_sem,setCells,setIn]
  refine ⟨_, _, call_rx [0] Tryz.func50 (r2) rfl rfl rfl rfl rfl rfl rfl (by simp [lendAll,lendC,seek,fresh,nav,rcells,RT.cells,VV.cells,tabE_cons,tabS_cons,ev,take_map_len,sRow_r1,sRow_comp,sRow_clean,nRow_r1,nRow_comp,nRow_clean]) rfl (by simp [rcells,RT.cells,CT.clean,T.clean,sRow_r1,sRow_comp,sRow_clean,nRow_r1,nRow_comp,nRow_clean]) rfl rfl, ?_⟩
  simp only [runH,runX,qp,qw,qm,List.length_map,go_sem,setCells,setIn]
  refine vw_go rfl ?_; simp only [go_sem,setCells,setIn]
  refine ⟨_, _, call_rx [0] Tryz.func51 (r1) rfl rfl rfl rfl rfl rfl rfl (by simp [lendAll,lendC,seek,fresh,nav,rcells,RT.cells,VV.cells,tabE_cons,tabS_cons,ev,take_map_len,sRow_r1,sRow_comp,sRow_clean,nRow_r1,nRow_comp,nRow_clean]) rfl (by simp [rcells,RT.cells,CT.clean,T.clean,sRow_r1,sRow_comp,sRow_clean,nRow_r1,nRow_comp,nRow_clean]) rfl rfl, ?_⟩
  cases hk : chipOk f.pages f.wear
  · simp only [runH,runX,go_sem,setCells,setIn]
    exact vw_ret (e_ret (ret_of rfl rfl (by simp [RB]) rfl rfl))
  rw [hk] at hY
  obtain rfl : Y = ⟨f.pages, f.wear, mm, mq⟩ := hY
  simp only
  simp only [runH,runX,go_sem,setCells,setIn]
  refine ⟨_, _, call_rx [0, 0] Tryz.func52 (r3) rfl rfl rfl rfl rfl rfl rfl (by simp [lendAll,lendC,seek,fresh,nav,rcells,RT.cells,VV.cells,tabE_cons,tabS_cons,ev,take_map_len,sRow_r1,sRow_comp,sRow_clean,nRow_r1,nRow_comp,nRow_clean]) rfl (by simp [rcells,RT.cells,CT.clean,T.clean,sRow_r1,sRow_comp,sRow_clean,nRow_r1,nRow_comp,nRow_clean]) rfl rfl, ?_⟩
  by_cases he : mm = f.map
  · simp only [runH,runX,he,go_sem,setCells,setIn]
    exact vw_ret (e_ret (ret_of rfl rfl (by simp [RB]) rfl rfl))
  · simp only [runH,runX,he,go_sem,setCells,setIn]
    exact vw_ret (e_ret (ret_of rfl rfl (by simp [RB]) rfl rfl))
end Go.Proofs.YtkijdbljnefeaaaGreatDoor
namespace Go.Proofs.YtkijdbljnefeaaaGreatDoor
open Go.VM Go
set_option maxRecDepth 100000
attribute [local congr] vw_congr runV_congr runH_congr runW_congr runX_congr stuckV_congr stuckX_congr
structure FtlV.right (f : FtlV) : Prop where
  small : f.small
  len : f.map.length = 26
  at_ : ∀ (n : Nat) m, f.map[n]? = some m → m = -1 ∨ ∃ (j : Nat) (u : ByteArray), m = (j : Int) ∧ f.pages[j]? = some u ∧ (recReadS u).2 = true ∧ (recReadS u).1.1 = n
theorem right_of {f : FtlV} (hs : f.small) (h : ftlOk f = true) : f.right := by
  simp only [ftlOk,Bool.and_eq_true,decide_eq_true_eq] at h
  obtain ⟨m1, m2, m3⟩ := mount_inv f.pages
  rw [← h.2.1] at m1 m3
  exact ⟨hs, m1, m3⟩
end Go.Proofs.YtkijdbljnefeaaaGreatDoor
namespace Go.Proofs.YtkijdbljnefeaaaGreatDoor
open Go.VM Go
/-- A block's clear pages among its first ones, and the clear ones at their end. -/
def clearTo (p : List ByteArray) (b : Nat) : Nat → Nat × Nat
  | 0 => (0, 0)
  | i + 1 => if p.getD (b * 6 + i) ⟨#[]⟩ = ⟨#[]⟩ then ((clearTo p b i).1 + 1, (clearTo p b i).2 + 1) else ((clearTo p b i).1, 0)
def clearF (p : List ByteArray) (b : Nat) : Nat × Nat := clearTo p b 6
theorem clearTo_le (p : List ByteArray) (b : Nat) : ∀ i, (clearTo p b i).1 ≤ i ∧ (clearTo p b i).2 ≤ i
  | 0 => ⟨Nat.le_refl _, Nat.le_refl _⟩
  | i + 1 => by
    have := clearTo_le p b i
    unfold clearTo
    split
    · simp only; omega
    · simp only; omega
def nextGo (p : List ByteArray) (w : List Int) : Nat → Nat → Int → Int
  | 0, _, best => if best < 0 then -1 else best * 6
  | n + 1, b, best =>
    if 0 < (clearF p b).1 ∧ (clearF p b).1 < 6 ∧ (clearF p b).2 = (clearF p b).1 then (b : Int) * 6 + 6 - (clearF p b).1
    else nextGo p w n (b + 1) (if (clearF p b).1 = 6 ∧ (best < 0 ∨ w.getD b 0 < w.getD best.toNat 0) then (b : Int) else best)
def nextF (p : List ByteArray) (w : List Int) : Int := nextGo p w 10 0 (-1)
theorem nextGo_in (p : List ByteArray) (w : List Int) : ∀ (n b : Nat) (best : Int), b + n = 10 → -1 ≤ best → best < 10 → -1 ≤ nextGo p w n b best ∧ nextGo p w n b best < 60
  | 0, b, best, _, h1, h2 => by
    unfold nextGo
    split <;> omega
  | n + 1, b, best, hb, h1, h2 => by
    unfold nextGo
    split
    · omega
    · refine nextGo_in p w n (b + 1) _ (by omega) ?_ ?_
      · split <;> omega
      · split <;> omega
theorem nextF_in (p : List ByteArray) (w : List Int) : -1 ≤ nextF p w ∧ nextF p w < 60 := nextGo_in p w 10 0 (-1) rfl (by decide) (by decide)
def openF (p : List ByteArray) (w : List Int) : Int := if nextF p w < 0 ∨ nextF p w % 6 = 0 then -1 else nextF p w / 6
def freeTo (p : List ByteArray) : Nat → List Int
  | 0 => []
  | b + 1 => if (clearF p b).1 = 6 then freeTo p b ++ [(b : Int)] else freeTo p b
theorem freeTo_len (p : List ByteArray) : ∀ b, (freeTo p b).length ≤ b
  | 0 => Nat.le_refl _
  | b + 1 => by
    have := freeTo_len p b
    unfold freeTo
    split
    · simp; omega
    · omega
def freeB (p : List ByteArray) (w : List Int) : List Int := if chipOk p w = true then freeTo p 10 else []
theorem freeB_len (p : List ByteArray) (w : List Int) : (freeB p w).length ≤ 10 := by
  unfold freeB
  split
  · exact freeTo_len p 10
  · exact Nat.zero_le _
/-- What of a map lives in a block's first pages. -/
def livesTo (m : List Int) (b : Nat) : Nat → List Int
  | 0 => []
  | i + 1 => livesTo m b i ++ m.filter (fun x => decide (x = ((b * 6 + i : Nat) : Int)))
def livesF (m : List Int) (b : Nat) : List Int := livesTo m b 6
end Go.Proofs.YtkijdbljnefeaaaGreatDoor
