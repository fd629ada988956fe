/- Draws of chips and what stands on them, spoilt at times. Names: NameOk of both. -/
import Derived.Test.YtkijdbljnefeaaaGreatDoorPFDrawF
import Derived.Test.YtkijdbljnefeaaaGreatDoorPFIn
set_option linter.unusedSimpArgs false
set_option linter.unusedVariables false
namespace Go.Proofs.YtkijdbljnefeaaaGreatDoor
open Go.VM Go
set_option maxRecDepth 100000
attribute [-go_sem] runW_cons
attribute [local congr] vw_congr runV_congr runH_congr runW_congr runX_congr stuckV_congr stuckX_congr
theorem sRow_fq (H : Value → Nat → List (List T) → Prop) (l : List ByteArray) : fineRs H (l.map sRow) = True := eq_true (sRow_fn H l)
theorem nRow_fq (H : Value → Nat → List (List T) → Prop) (l : List Int) : fineRs H (l.map nRow) = True := eq_true (nRow_fn H l)
theorem runs_67 (v : Value) (L : List UInt8) (hL : L.length < 2 ^ 60) (c : Cur) (X : Chip2) (C : Cur) (hX : X = ((ftlRight L c).1.pages, (ftlRight L c).1.wear)) (hC : C = (ftlRight L c).2) :
    Runs Tryz.prog 67 [.one (.box [.held v 1 (L.map bRow), .int .i64 c.i, .int .i64 c.h])] [.agg [.v (.list true 1 (X.1.map sRow)), .v (.list true 1 (X.2.map nRow))]] [(0, ⟨true, 3, [[.held v 1 (L.map bRow), .int .i64 C.i, .int .i64 C.h]], []⟩)] := by
  refine runs_tabB (tab := [(0, .ptr 0 [] 0 0 0)]) (rts := [(0, some ⟨true, 3, [[.held v 1 (L.map bRow), .int .i64 c.i, .int .i64 c.h]], []⟩)]) (n := 8) (k := 1) Tryz.func67 rfl rfl (by simp) rfl (fun t => ?_) rfl ?_
  · rcases t with _ | t <;> rfl
  have rR := runs_42 v L hL c (ftlRight L c).1 (ftlRight L c).2 rfl
  generalize ftlRight L c = r at rR hX hC
  obtain ⟨f, d⟩ := r
  simp only at rR hX hC
  subst hX
  subst hC
  have gp : List.take f.pages.length (f.pages.map sRow) = f.pages.map sRow := List.take_of_length_le (by simp)
  have gw : List.take f.wear.length (f.wear.map nRow) = f.wear.map nRow := List.take_of_length_le (by simp)
  have gm : List.take f.map.length (f.map.map nRow) = f.map.map nRow := List.take_of_length_le (by simp)
  refine vw_go rfl ?_; simp only [go_sem,setCells,setIn]
  refine vw_go rfl ?_; simp only [go_sem,setCells,setIn]
  refine ⟨_, _, call_pt [0] 0 Tryz.func42 (rR) rfl rfl rfl rfl rfl rfl rfl rfl (by simp [lendAll,lendC,seek,fresh,nav,rcells,RT.cells,VV.cells,tabE_cons,tabS_cons,St.put,ev,lit,take_map_len,sRow_r1,sRow_comp,sRow_clean,nRow_r1,nRow_comp,nRow_clean,actRow_r1,actRow_clean,sRow_fq,nRow_fq]) rfl rfl (by simp [rcells,RT.cells,CT.fine,T.fine,sRow_r1,sRow_comp,sRow_clean,nRow_r1,nRow_comp,nRow_clean,actRow_r1,actRow_clean,sRow_fq,nRow_fq]) (by exact ⟨.inr ⟨0, _, _, rfl, .head _, .head _⟩, trivial, trivial, trivial⟩) rfl rfl, ?_⟩
  simp only [runH,runX,gp,gw,gm,List.drop_length,go_sem,setCells,setIn]
  refine vw_go rfl ?_; simp only [gp,gw,gm,List.drop_length,go_sem,setCells,setIn]
  exact vw_ret (e_ret (ret_b rfl rfl (by simp [RB]) rfl (by simp only [takeCs,takeC,gp,gw,gm,List.drop_length,go_sem,setCells,setIn]; rfl) (by exact ⟨⟨by simp, _, rfl, rfl, rfl, rfl⟩, trivial⟩)))
def wearL : List Int := [-1, 1000000000, 1000000001]
def mapL : List Int := [-1, 0, 5, 60]
def seqL : List Int := [0, 1, 1000000000]
def drawC (L : List UInt8) (c : Cur) : Chip2 × Cur :=
  if belV L (ftlRight L c).2 15 = 0 then (((ftlRight L c).1.pages.drop 1, (ftlRight L c).1.wear), byteC L (ftlRight L c).2)
  else if belV L (ftlRight L c).2 15 = 1 then (((ftlRight L c).1.pages, (ftlRight L c).1.wear.set (belV L (byteC L (ftlRight L c).2) 10).toNat (pickV L (byteC L (byteC L (ftlRight L c).2)) wearL 0)), byteC L (byteC L (byteC L (ftlRight L c).2)))
  else if belV L (ftlRight L c).2 15 = 2 then (((ftlRight L c).1.pages.set (belV L (byteC L (ftlRight L c).2) 60).toNat (drawText L (byteC L (byteC L (ftlRight L c).2))).1, (ftlRight L c).1.wear), (drawText L (byteC L (byteC L (ftlRight L c).2))).2)
  else if belV L (ftlRight L c).2 15 = 3 then (((ftlRight L c).1.pages, []), byteC L (ftlRight L c).2)
  else (((ftlRight L c).1.pages, (ftlRight L c).1.wear), byteC L (ftlRight L c).2)
set_option maxHeartbeats 2000000 in
theorem runs_44 (v : Value) (L : List UInt8) (hL : L.length < 2 ^ 60) (c : Cur) (X : Chip2) (C : Cur) (hC : (X, C) = drawC L c) :
    Runs Tryz.prog 44 [.one (.box [.held v 1 (L.map bRow), .int .i64 c.i, .int .i64 c.h])] [.agg [.v (.list true 1 (X.1.map sRow)), .v (.list true 1 (X.2.map nRow))]] [(0, ⟨true, 3, [[.held v 1 (L.map bRow), .int .i64 C.i, .int .i64 C.h]], []⟩)] := by
  refine runs_tabB (tab := [(0, .ptr 0 [] 0 0 0)]) (rts := [(0, some ⟨true, 3, [[.held v 1 (L.map bRow), .int .i64 c.i, .int .i64 c.h]], []⟩)]) (n := 37) (k := 1) Tryz.func44 rfl rfl (by simp) rfl (fun t => ?_) rfl ?_
  · rcases t with _ | t <;> rfl
  unfold drawC at hC
  have rR := runs_67 v L hL c _ _ rfl rfl
  have hf := (ftlRight_good L c).shape
  generalize ftlRight L c = r at rR hf hC
  obtain ⟨f, d⟩ := r
  simp only at rR hf hC
  have rB := runs_21 v L hL d 15 (by decide) (by decide)
  have hb := belV_in L d (n := 15) (by decide)
  generalize belV L d 15 = b at rB hC hb
  generalize byteC L d = e at rB hC
  have gp : List.take f.pages.length (f.pages.map sRow) = f.pages.map sRow := List.take_of_length_le (by simp)
  have gw : List.take f.wear.length (f.wear.map nRow) = f.wear.map nRow := List.take_of_length_le (by simp)
  have hpl := hf.pl
  have hwl := hf.wl
  refine vw_go rfl ?_; simp only [go_sem,setCells,setIn]
  refine vw_go rfl ?_; simp only [go_sem,setCells,setIn]
  refine ⟨_, _, call_pt [0] 0 Tryz.func67 (rR) rfl rfl rfl rfl rfl rfl rfl rfl (by simp [lendAll,lendC,seek,fresh,nav,rcells,RT.cells,VV.cells,tabE_cons,tabS_cons,St.put,ev,lit,take_map_len,sRow_r1,sRow_comp,sRow_clean,nRow_r1,nRow_comp,nRow_clean,actRow_r1,actRow_clean,sRow_fq,nRow_fq]) rfl rfl (by simp [rcells,RT.cells,CT.fine,T.fine,sRow_r1,sRow_comp,sRow_clean,nRow_r1,nRow_comp,nRow_clean,actRow_r1,actRow_clean,sRow_fq,nRow_fq]) (by exact ⟨.inr ⟨0, _, _, rfl, .head _, .head _⟩, trivial, trivial, trivial⟩) rfl rfl, ?_⟩
  simp only [runH,runX,gp,gw,List.drop_length,go_sem,setCells,setIn]
  refine vw_seq ?_
  refine vw_go rfl ?_; simp only [go_sem,setCells,setIn]
  refine ⟨_, _, call_pt [0, 0] 0 Tryz.func21 (rB) rfl rfl rfl rfl rfl rfl rfl rfl (by simp [lendAll,lendC,seek,fresh,nav,rcells,RT.cells,VV.cells,tabE_cons,tabS_cons,St.put,ev,lit,take_map_len]) rfl rfl (by simp [rcells,RT.cells,CT.fine,T.fine]) (by exact ⟨.inr ⟨0, _, _, rfl, .head _, .head _⟩, trivial, trivial, trivial⟩) rfl rfl, ?_⟩
  simp only [runH,runX,go_sem,setCells,setIn]
  refine vw_block ?_
  by_cases h0 : b = 0
  · rw [if_pos h0] at hC
    obtain ⟨rfl, rfl⟩ := hC
    subst h0
    refine vw_go rfl ?_; simp only [go_sem,setCells,setIn]
    refine vw_cond (t := true) rfl (fun _ => ?_) (fun h => nomatch h)
    have l1 : 1 ≤ f.pages.length := by omega
    have l2 : 1 + (f.pages.length - 1) ≤ f.pages.length := by omega
    have bd : List.take (f.pages.length - 1) (List.drop 1 (f.pages.map sRow)) = (f.pages.drop 1).map sRow := by rw [← List.map_drop]; exact List.take_of_length_le (by simp)
    have bd2 : List.take (f.pages.drop 1).length ((f.pages.drop 1).map sRow) = (f.pages.drop 1).map sRow := List.take_of_length_le (by simp)
    refine vw_last rfl ?_; simp only [l1,l2,bd,List.drop_length,go_sem,setCells,setIn]
    refine (n_block (n_then ?_))
    refine vw_go rfl ?_; simp only [bd2,gw,List.drop_length,go_sem,setCells,setIn]
    exact vw_ret (e_ret (ret_b rfl rfl (by simp [RB]) rfl (by simp only [takeCs,takeC,bd2,gw,List.drop_length,go_sem,setCells,setIn]; rfl) (by exact ⟨⟨by simp, _, rfl, rfl, rfl, rfl⟩, trivial⟩)))
  rw [if_neg h0] at hC
  refine vw_go rfl ?_; simp only [h0,go_sem,setCells,setIn]
  refine vw_cond (t := false) rfl (fun h => nomatch h) (fun _ => ?_)
  by_cases h1 : b = 1
  · rw [if_pos h1] at hC
    have rB2 := runs_21 v L hL e 10 (by decide) (by decide)
    have hb2 := belV_in L e (n := 10) (by decide)
    generalize belV L e 10 = k at rB2 hC hb2
    generalize byteC L e = e2 at rB2 hC
    have rP := runs_43 v L hL e2 wearL (by decide) (by decide)
    generalize pickV L e2 wearL 0 = x at rP hC
    generalize byteC L e2 = e3 at rP hC
    obtain ⟨K, rfl⟩ : ∃ K : Nat, k = K := ⟨k.toNat, by omega⟩
    rw [Int.toNat_natCast] at hC
    obtain ⟨rfl, rfl⟩ := hC
    have k0 : (0:Int) ≤ (K : Int) := by omega
    have k1 : (K : Int) < f.wear.length := by omega
    have k2 : K < f.wear.length := by omega
    obtain ⟨y, hy⟩ : ∃ y, f.wear[K]? = some y := ⟨_, List.getElem?_eq_getElem k2⟩
    have q3 : (f.wear.map nRow).set K [.int .i64 x] = (f.wear.set K x).map nRow := by rw [List.map_set]
    have bs : List.take (f.wear.set K x).length ((f.wear.set K x).map nRow) = (f.wear.set K x).map nRow := List.take_of_length_le (by simp)
    subst h1
    refine vw_go rfl ?_; simp only [go_sem,setCells,setIn]
    refine vw_cond (t := true) rfl (fun _ => ?_) (fun h => nomatch h)
    refine vw_drawA_last mixed rfl rfl ?_; intro A hAA
    simp (maxSteps := 1000000) only [gp, gw, range1, List.replicate_succ, List.replicate_zero, List.flatten_cons, List.flatten_nil, List.range_zero, gt_iff_lt, List.drop_length, go_sem, setCells, setIn, runW_step]
    refine ⟨_, _, _, call_pt_at [0, 0] 0 [] Tryz.func21 (rB2) rfl rfl rfl rfl rfl rfl rfl rfl (fun st1 hst1 => by (try simp only [List.mem_cons,List.not_mem_nil,or_false,false_or,forall_eq_or_imp,forall_eq] at hst1); simp [lendAll,lendC,seek,fresh,nav,rcells,RT.cells,VV.cells,tabE_cons,tabS_cons,St.put,ev,lit,take_map_len,hst1]) rfl rfl (fun st1 hst1 => by simp [rcells,RT.cells,CT.fine,T.fine]) (fun st1 hst1 => by exact ⟨.inr ⟨0, _, _, (hst1 _ (.head _)).trans rfl, .head _, .head _⟩, trivial, trivial, trivial⟩) rfl rfl, ?_⟩
    (unfold runX; simp (maxSteps := 1000000) only [gp, gw, range1, List.replicate_succ, List.replicate_zero, List.flatten_cons, List.flatten_nil, List.range_zero, gt_iff_lt, List.drop_length, go_sem, setCells, setIn, runW_step])
    refine ⟨_, _, _, call_pt_at [0, 0] 0 [332801] Tryz.func43 (rP) rfl rfl rfl rfl rfl rfl rfl rfl (fun st1 hst1 => by (try simp only [List.mem_cons,List.not_mem_nil,or_false,false_or,forall_eq_or_imp,forall_eq] at hst1); simp [lendAll,lendC,seek,fresh,nav,rcells,RT.cells,VV.cells,tabE_cons,tabS_cons,St.put,ev,lit,take_map_len,hst1,nRow,wearL]) rfl rfl (fun st1 hst1 => by simp [rcells,RT.cells,CT.fine,T.fine,nRow,wearL]) (fun st1 hst1 => by exact ⟨.inr ⟨0, _, _, (hst1 _ (.head _)).trans rfl, .head _, .head _⟩, trivial, trivial, trivial⟩) rfl rfl, ?_⟩
    (unfold runX; simp (maxSteps := 1000000) only [gp, gw, k0, k1, k2, Int.toNat_natCast, getD_map_of hy, nRow, q3, List.drop_length, go_sem, setCells, setIn, runW_step])
    refine ⟨by subst hAA; unfold allOk; kernel_rfl, ?_⟩
    refine (n_block (n_then ?_))
    refine vw_go rfl ?_; simp only [gp,bs,List.drop_length,go_sem,setCells,setIn]
    exact vw_ret (e_ret (ret_b rfl rfl (by simp [RB]) rfl (by simp only [takeCs,takeC,gp,bs,List.drop_length,go_sem,setCells,setIn]; rfl) (by exact ⟨⟨by simp, _, rfl, rfl, rfl, rfl⟩, trivial⟩)))
  rw [if_neg h1] at hC
  refine vw_go rfl ?_; simp only [h1,go_sem,setCells,setIn]
  refine vw_cond (t := false) rfl (fun h => nomatch h) (fun _ => ?_)
  by_cases h2 : b = 2
  · rw [if_pos h2] at hC
    have rB2 := runs_21 v L hL e 60 (by decide) (by decide)
    have hb2 := belV_in L e (n := 60) (by decide)
    generalize belV L e 60 = k at rB2 hC hb2
    generalize byteC L e = e2 at rB2 hC
    have rP := runs_68 v L hL e2 _ rfl
    generalize drawText L e2 = xd at rP hC
    obtain ⟨x, e3⟩ := xd
    simp only at rP hC
    obtain ⟨K, rfl⟩ : ∃ K : Nat, k = K := ⟨k.toNat, by omega⟩
    rw [Int.toNat_natCast] at hC
    obtain ⟨rfl, rfl⟩ := hC
    have k0 : (0:Int) ≤ (K : Int) := by omega
    have k1 : (K : Int) < f.pages.length := by omega
    have k2 : K < f.pages.length := by omega
    obtain ⟨y, hy⟩ : ∃ y, f.pages[K]? = some y := ⟨_, List.getElem?_eq_getElem k2⟩
    have q3 : (f.pages.map sRow).set K [.str x] = (f.pages.set K x).map sRow := by rw [List.map_set]; rfl
    have bs : List.take (f.pages.set K x).length ((f.pages.set K x).map sRow) = (f.pages.set K x).map sRow := List.take_of_length_le (by simp)
    subst h2
    refine vw_go rfl ?_; simp only [go_sem,setCells,setIn]
    refine vw_cond (t := true) rfl (fun _ => ?_) (fun h => nomatch h)
    refine vw_drawA_last mixed rfl rfl ?_; intro A hAA
    simp (maxSteps := 1000000) only [gp, gw, range1, List.replicate_succ, List.replicate_zero, List.flatten_cons, List.flatten_nil, List.range_zero, gt_iff_lt, List.drop_length, go_sem, setCells, setIn, runW_step]
    refine ⟨_, _, _, call_pt_at [0, 0] 0 [] Tryz.func21 (rB2) rfl rfl rfl rfl rfl rfl rfl rfl (fun st1 hst1 => by (try simp only [List.mem_cons,List.not_mem_nil,or_false,false_or,forall_eq_or_imp,forall_eq] at hst1); simp [lendAll,lendC,seek,fresh,nav,rcells,RT.cells,VV.cells,tabE_cons,tabS_cons,St.put,ev,lit,take_map_len,hst1]) rfl rfl (fun st1 hst1 => by simp [rcells,RT.cells,CT.fine,T.fine]) (fun st1 hst1 => by exact ⟨.inr ⟨0, _, _, (hst1 _ (.head _)).trans rfl, .head _, .head _⟩, trivial, trivial, trivial⟩) rfl rfl, ?_⟩
    (unfold runX; simp (maxSteps := 1000000) only [gp, gw, range1, List.replicate_succ, List.replicate_zero, List.flatten_cons, List.flatten_nil, List.range_zero, gt_iff_lt, List.drop_length, go_sem, setCells, setIn, runW_step])
    refine ⟨_, _, _, call_pt_at [0] 0 [] Tryz.func68 (rP) rfl rfl rfl rfl rfl rfl rfl rfl (fun st1 hst1 => by (try simp only [List.mem_cons,List.not_mem_nil,or_false,false_or,forall_eq_or_imp,forall_eq] at hst1); simp [lendAll,lendC,seek,fresh,nav,rcells,RT.cells,VV.cells,tabE_cons,tabS_cons,St.put,ev,lit,take_map_len,hst1]) rfl rfl (fun st1 hst1 => by simp [rcells,RT.cells,CT.fine,T.fine]) (fun st1 hst1 => by exact ⟨.inr ⟨0, _, _, (hst1 _ (.head _)).trans rfl, .head _, .head _⟩, trivial, trivial, trivial⟩) rfl rfl, ?_⟩
    (unfold runX; simp (maxSteps := 1000000) only [gp, gw, k0, k1, k2, Int.toNat_natCast, getD_map_of hy, sRow, q3, List.drop_length, go_sem, setCells, setIn, runW_step])
    refine ⟨by subst hAA; unfold allOk; kernel_rfl, ?_⟩
    refine (n_block (n_then ?_))
    refine vw_go rfl ?_; simp only [gw,bs,List.drop_length,go_sem,setCells,setIn]
    exact vw_ret (e_ret (ret_b rfl rfl (by simp [RB]) rfl (by simp only [takeCs,takeC,gw,bs,List.drop_length,go_sem,setCells,setIn]; rfl) (by exact ⟨⟨by simp, _, rfl, rfl, rfl, rfl⟩, trivial⟩)))
  rw [if_neg h2] at hC
  refine vw_go rfl ?_; simp only [h2,go_sem,setCells,setIn]
  refine vw_cond (t := false) rfl (fun h => nomatch h) (fun _ => ?_)
  by_cases h3 : b = 3
  · rw [if_pos h3] at hC
    obtain ⟨rfl, rfl⟩ := hC
    subst h3
    refine vw_go rfl ?_; simp only [go_sem,setCells,setIn]
    refine vw_cond (t := true) rfl (fun _ => ?_) (fun h => nomatch h)
    refine vw_last rfl ?_; simp only [List.drop_length,go_sem,setCells,setIn]
    refine (n_block (n_then ?_))
    refine vw_go rfl ?_; simp only [gp,List.drop_length,go_sem,setCells,setIn]
    exact vw_ret (e_ret (ret_b rfl rfl (by simp [RB]) rfl (by simp only [takeCs,takeC,gp,List.drop_length,go_sem,setCells,setIn]; rfl) (by exact ⟨⟨by simp, _, rfl, rfl, rfl, rfl⟩, trivial⟩)))
  rw [if_neg h3] at hC
  obtain ⟨rfl, rfl⟩ := hC
  refine vw_go rfl ?_; simp only [h3,go_sem,setCells,setIn]
  refine vw_cond (t := false) rfl (fun h => nomatch h) (fun _ => ?_)
  refine vw_skip (n_block (n_then ?_))
  refine vw_go rfl ?_; simp only [gp,gw,List.drop_length,go_sem,setCells,setIn]
  exact vw_ret (e_ret (ret_b rfl rfl (by simp [RB]) rfl (by simp only [takeCs,takeC,gp,gw,List.drop_length,go_sem,setCells,setIn]; rfl) (by exact ⟨⟨by simp, _, rfl, rfl, rfl, rfl⟩, trivial⟩)))
def drawFt (L : List UInt8) (c : Cur) : FtlV × Cur :=
  if belV L (ftlRight L c).2 15 = 0 then (⟨(ftlRight L c).1.pages, (ftlRight L c).1.wear, (ftlRight L c).1.map.set (belV L (byteC L (ftlRight L c).2) 26).toNat (pickV L (byteC L (byteC L (ftlRight L c).2)) mapL 0), (ftlRight L c).1.seq⟩, byteC L (byteC L (byteC L (ftlRight L c).2)))
  else if belV L (ftlRight L c).2 15 = 1 then (⟨(ftlRight L c).1.pages, (ftlRight L c).1.wear, (ftlRight L c).1.map, pickV L (byteC L (ftlRight L c).2) seqL 0⟩, byteC L (byteC L (ftlRight L c).2))
  else if belV L (ftlRight L c).2 15 = 2 then (⟨(drawC L (byteC L (ftlRight L c).2)).1.1, (drawC L (byteC L (ftlRight L c).2)).1.2, (ftlRight L c).1.map, (ftlRight L c).1.seq⟩, (drawC L (byteC L (ftlRight L c).2)).2)
  else if belV L (ftlRight L c).2 15 = 3 then (⟨(ftlRight L c).1.pages, (ftlRight L c).1.wear, [], (ftlRight L c).1.seq⟩, byteC L (ftlRight L c).2)
  else ((ftlRight L c).1, byteC L (ftlRight L c).2)
set_option maxHeartbeats 2000000 in
theorem runs_20 (v : Value) (L : List UInt8) (hL : L.length < 2 ^ 60) (c : Cur) (f : FtlV) (C : Cur) (hC : (f, C) = drawFt L c) :
    Runs Tryz.prog 20 [.one (.box [.held v 1 (L.map bRow), .int .i64 c.i, .int .i64 c.h])] [.agg [.v (.list true 1 (f.pages.map sRow)), .v (.list true 1 (f.wear.map nRow)), .v (.list true 1 (f.map.map nRow)), .v (.int .i64 f.seq)]] [(0, ⟨true, 3, [[.held v 1 (L.map bRow), .int .i64 C.i, .int .i64 C.h]], []⟩)] := by
  refine runs_tabB (tab := [(0, .ptr 0 [] 0 0 0)]) (rts := [(0, some ⟨true, 3, [[.held v 1 (L.map bRow), .int .i64 c.i, .int .i64 c.h]], []⟩)]) (n := 33) (k := 1) Tryz.func20 rfl rfl (by simp) rfl (fun t => ?_) rfl ?_
  · rcases t with _ | t <;> rfl
  unfold drawFt at hC
  have rR := runs_42 v L hL c (ftlRight L c).1 (ftlRight L c).2 rfl
  have hf := (ftlRight_good L c).shape
  generalize ftlRight L c = r at rR hf hC
  obtain ⟨g, d⟩ := r
  simp only at rR hf hC
  have rB := runs_21 v L hL d 15 (by decide) (by decide)
  have hb := belV_in L d (n := 15) (by decide)
  generalize belV L d 15 = b at rB hC hb
  generalize byteC L d = e at rB hC
  have gp : List.take g.pages.length (g.pages.map sRow) = g.pages.map sRow := List.take_of_length_le (by simp)
  have gw : List.take g.wear.length (g.wear.map nRow) = g.wear.map nRow := List.take_of_length_le (by simp)
  have gm : List.take g.map.length (g.map.map nRow) = g.map.map nRow := List.take_of_length_le (by simp)
  have hml := hf.ml
  refine vw_go rfl ?_; simp only [go_sem,setCells,setIn]
  refine vw_go rfl ?_; simp only [go_sem,setCells,setIn]
  refine ⟨_, _, call_pt [0] 0 Tryz.func42 (rR) rfl rfl rfl rfl rfl rfl rfl rfl (by simp [lendAll,lendC,seek,fresh,nav,rcells,RT.cells,VV.cells,tabE_cons,tabS_cons,St.put,ev,lit,take_map_len,sRow_r1,sRow_comp,sRow_clean,nRow_r1,nRow_comp,nRow_clean,actRow_r1,actRow_clean,sRow_fq,nRow_fq]) rfl rfl (by simp [rcells,RT.cells,CT.fine,T.fine,sRow_r1,sRow_comp,sRow_clean,nRow_r1,nRow_comp,nRow_clean,actRow_r1,actRow_clean,sRow_fq,nRow_fq]) (by exact ⟨.inr ⟨0, _, _, rfl, .head _, .head _⟩, trivial, trivial, trivial⟩) rfl rfl, ?_⟩
  simp only [runH,runX,gp,gw,gm,List.drop_length,go_sem,setCells,setIn]
  refine vw_seq ?_
  refine vw_go rfl ?_; simp only [go_sem,setCells,setIn]
  refine ⟨_, _, call_pt [0, 0] 0 Tryz.func21 (rB) rfl rfl rfl rfl rfl rfl rfl rfl (by simp [lendAll,lendC,seek,fresh,nav,rcells,RT.cells,VV.cells,tabE_cons,tabS_cons,St.put,ev,lit,take_map_len]) rfl rfl (by simp [rcells,RT.cells,CT.fine,T.fine]) (by exact ⟨.inr ⟨0, _, _, rfl, .head _, .head _⟩, trivial, trivial, trivial⟩) rfl rfl, ?_⟩
  simp only [runH,runX,go_sem,setCells,setIn]
  refine vw_block ?_
  by_cases h0 : b = 0
  · rw [if_pos h0] at hC
    have rB2 := runs_21 v L hL e 26 (by decide) (by decide)
    have hb2 := belV_in L e (n := 26) (by decide)
    generalize belV L e 26 = k at rB2 hC hb2
    generalize byteC L e = e2 at rB2 hC
    have rP := runs_43 v L hL e2 mapL (by decide) (by decide)
    generalize pickV L e2 mapL 0 = x at rP hC
    generalize byteC L e2 = e3 at rP hC
    obtain ⟨K, rfl⟩ : ∃ K : Nat, k = K := ⟨k.toNat, by omega⟩
    rw [Int.toNat_natCast] at hC
    obtain ⟨rfl, rfl⟩ := hC
    have k0 : (0:Int) ≤ (K : Int) := by omega
    have k1 : (K : Int) < g.map.length := by omega
    have k2 : K < g.map.length := by omega
    obtain ⟨y, hy⟩ : ∃ y, g.map[K]? = some y := ⟨_, List.getElem?_eq_getElem k2⟩
    have q3 : (g.map.map nRow).set K [.int .i64 x] = (g.map.set K x).map nRow := by rw [List.map_set]
    have bs : List.take (g.map.set K x).length ((g.map.set K x).map nRow) = (g.map.set K x).map nRow := List.take_of_length_le (by simp)
    subst h0
    refine vw_go rfl ?_; simp only [go_sem,setCells,setIn]
    refine vw_cond (t := true) rfl (fun _ => ?_) (fun h => nomatch h)
    refine vw_drawA_last mixed rfl rfl ?_; intro A hAA
    simp (maxSteps := 1000000) only [gp, gw, gm, range1, List.replicate_succ, List.replicate_zero, List.flatten_cons, List.flatten_nil, List.range_zero, gt_iff_lt, List.drop_length, go_sem, setCells, setIn, runW_step]
    refine ⟨_, _, _, call_pt_at [0, 0] 0 [] Tryz.func21 (rB2) rfl rfl rfl rfl rfl rfl rfl rfl (fun st1 hst1 => by (try simp only [List.mem_cons,List.not_mem_nil,or_false,false_or,forall_eq_or_imp,forall_eq] at hst1); simp [lendAll,lendC,seek,fresh,nav,rcells,RT.cells,VV.cells,tabE_cons,tabS_cons,St.put,ev,lit,take_map_len,hst1]) rfl rfl (fun st1 hst1 => by simp [rcells,RT.cells,CT.fine,T.fine]) (fun st1 hst1 => by exact ⟨.inr ⟨0, _, _, (hst1 _ (.head _)).trans rfl, .head _, .head _⟩, trivial, trivial, trivial⟩) rfl rfl, ?_⟩
    (unfold runX; simp (maxSteps := 1000000) only [gp, gw, gm, range1, List.replicate_succ, List.replicate_zero, List.flatten_cons, List.flatten_nil, List.range_zero, gt_iff_lt, List.drop_length, go_sem, setCells, setIn, runW_step])
    refine ⟨_, _, _, call_pt_at [0, 0] 0 [267265] Tryz.func43 (rP) rfl rfl rfl rfl rfl rfl rfl rfl (fun st1 hst1 => by (try simp only [List.mem_cons,List.not_mem_nil,or_false,false_or,forall_eq_or_imp,forall_eq] at hst1); simp [lendAll,lendC,seek,fresh,nav,rcells,RT.cells,VV.cells,tabE_cons,tabS_cons,St.put,ev,lit,take_map_len,hst1,nRow,mapL]) rfl rfl (fun st1 hst1 => by simp [rcells,RT.cells,CT.fine,T.fine,nRow,mapL]) (fun st1 hst1 => by exact ⟨.inr ⟨0, _, _, (hst1 _ (.head _)).trans rfl, .head _, .head _⟩, trivial, trivial, trivial⟩) rfl rfl, ?_⟩
    (unfold runX; simp (maxSteps := 1000000) only [gp, gw, gm, k0, k1, k2, Int.toNat_natCast, getD_map_of hy, nRow, q3, List.drop_length, go_sem, setCells, setIn, runW_step])
    refine ⟨by subst hAA; unfold allOk; kernel_rfl, ?_⟩
    refine (n_block (n_then ?_))
    refine vw_go rfl ?_; simp only [gp,gw,bs,List.drop_length,go_sem,setCells,setIn]
    exact vw_ret (e_ret (ret_b rfl rfl (by simp [RB]) rfl (by simp only [takeCs,takeC,gp,gw,bs,List.drop_length,go_sem,setCells,setIn]; rfl) (by exact ⟨⟨by simp, _, rfl, rfl, rfl, rfl⟩, trivial⟩)))
  rw [if_neg h0] at hC
  refine vw_go rfl ?_; simp only [h0,go_sem,setCells,setIn]
  refine vw_cond (t := false) rfl (fun h => nomatch h) (fun _ => ?_)
  by_cases h1 : b = 1
  · rw [if_pos h1] at hC
    have rP := runs_43 v L hL e seqL (by decide) (by decide)
    generalize pickV L e seqL 0 = x at rP hC
    generalize byteC L e = e3 at rP hC
    obtain ⟨rfl, rfl⟩ := hC
    subst h1
    refine vw_go rfl ?_; simp only [go_sem,setCells,setIn]
    refine vw_cond (t := true) rfl (fun _ => ?_) (fun h => nomatch h)
    refine vw_last rfl ?_; simp only [range1,List.replicate_succ,List.replicate_zero,List.flatten_cons,List.flatten_nil,List.range_zero,gt_iff_lt,go_sem,setCells,setIn]
    refine ⟨_, _, call_pt [0, 0] 0 Tryz.func43 (rP) rfl rfl rfl rfl rfl rfl rfl rfl (by simp [lendAll,lendC,seek,fresh,nav,rcells,RT.cells,VV.cells,tabE_cons,tabS_cons,St.put,ev,lit,take_map_len,nRow,seqL]) rfl rfl (by simp [rcells,RT.cells,CT.fine,T.fine,nRow,seqL]) (by exact ⟨.inr ⟨0, _, _, rfl, .head _, .head _⟩, trivial, trivial, trivial⟩) rfl rfl, ?_⟩
    simp only [runH,runX,List.drop_length,go_sem,setCells,setIn]
    refine (n_block (n_then ?_))
    refine vw_go rfl ?_; simp only [gp,gw,gm,List.drop_length,go_sem,setCells,setIn]
    exact vw_ret (e_ret (ret_b rfl rfl (by simp [RB]) rfl (by simp only [takeCs,takeC,gp,gw,gm,List.drop_length,go_sem,setCells,setIn]; rfl) (by exact ⟨⟨by simp, _, rfl, rfl, rfl, rfl⟩, trivial⟩)))
  rw [if_neg h1] at hC
  refine vw_go rfl ?_; simp only [h1,go_sem,setCells,setIn]
  refine vw_cond (t := false) rfl (fun h => nomatch h) (fun _ => ?_)
  by_cases h2 : b = 2
  · rw [if_pos h2] at hC
    have rD := runs_44 v L hL e (drawC L e).1 (drawC L e).2 rfl
    generalize drawC L e = x at rD hC
    obtain ⟨X, e3⟩ := x
    simp only at rD hC
    obtain ⟨rfl, rfl⟩ := hC
    have xp : List.take X.1.length (X.1.map sRow) = X.1.map sRow := List.take_of_length_le (by simp)
    have xw : List.take X.2.length (X.2.map nRow) = X.2.map nRow := List.take_of_length_le (by simp)
    subst h2
    refine vw_go rfl ?_; simp only [go_sem,setCells,setIn]
    refine vw_cond (t := true) rfl (fun _ => ?_) (fun h => nomatch h)
    refine vw_last rfl ?_; simp only [go_sem,setCells,setIn]
    refine ⟨_, _, call_pt [0] 0 Tryz.func44 (rD) rfl rfl rfl rfl rfl rfl rfl rfl (by simp [lendAll,lendC,seek,fresh,nav,rcells,RT.cells,VV.cells,tabE_cons,tabS_cons,St.put,ev,lit,take_map_len,sRow_r1,sRow_comp,sRow_clean,nRow_r1,nRow_comp,nRow_clean,actRow_r1,actRow_clean,sRow_fq,nRow_fq]) rfl rfl (by simp [rcells,RT.cells,CT.fine,T.fine,sRow_r1,sRow_comp,sRow_clean,nRow_r1,nRow_comp,nRow_clean,actRow_r1,actRow_clean,sRow_fq,nRow_fq]) (by exact ⟨.inr ⟨0, _, _, rfl, .head _, .head _⟩, trivial, trivial, trivial⟩) rfl rfl, ?_⟩
    simp only [runH,runX,xp,xw,List.drop_length,go_sem,setCells,setIn]
    refine (n_block (n_then ?_))
    refine vw_go rfl ?_; simp only [xp,xw,gm,List.drop_length,go_sem,setCells,setIn]
    exact vw_ret (e_ret (ret_b rfl rfl (by simp [RB]) rfl (by simp only [takeCs,takeC,xp,xw,gm,List.drop_length,go_sem,setCells,setIn]; rfl) (by exact ⟨⟨by simp, _, rfl, rfl, rfl, rfl⟩, trivial⟩)))
  rw [if_neg h2] at hC
  refine vw_go rfl ?_; simp only [h2,go_sem,setCells,setIn]
  refine vw_cond (t := false) rfl (fun h => nomatch h) (fun _ => ?_)
  by_cases h3 : b = 3
  · rw [if_pos h3] at hC
    obtain ⟨rfl, rfl⟩ := hC
    subst h3
    refine vw_go rfl ?_; simp only [go_sem,setCells,setIn]
    refine vw_cond (t := true) rfl (fun _ => ?_) (fun h => nomatch h)
    refine vw_last rfl ?_; simp only [List.drop_length,go_sem,setCells,setIn]
    refine (n_block (n_then ?_))
    refine vw_go rfl ?_; simp only [gp,gw,List.drop_length,go_sem,setCells,setIn]
    exact vw_ret (e_ret (ret_b rfl rfl (by simp [RB]) rfl (by simp only [takeCs,takeC,gp,gw,List.drop_length,go_sem,setCells,setIn]; rfl) (by exact ⟨⟨by simp, _, rfl, rfl, rfl, rfl⟩, trivial⟩)))
  rw [if_neg h3] at hC
  obtain ⟨rfl, rfl⟩ := hC
  refine vw_go rfl ?_; simp only [h3,go_sem,setCells,setIn]
  refine vw_cond (t := false) rfl (fun h => nomatch h) (fun _ => ?_)
  refine vw_skip (n_block (n_then ?_))
  refine vw_go rfl ?_; simp only [gp,gw,gm,List.drop_length,go_sem,setCells,setIn]
  exact vw_ret (e_ret (ret_b rfl rfl (by simp [RB]) rfl (by simp only [takeCs,takeC,gp,gw,gm,List.drop_length,go_sem,setCells,setIn]; rfl) (by exact ⟨⟨by simp, _, rfl, rfl, rfl, rfl⟩, trivial⟩)))
end Go.Proofs.YtkijdbljnefeaaaGreatDoor
namespace Go.Proofs.YtkijdbljnefeaaaGreatDoor
open Go.VM
set_option maxRecDepth 100000
attribute [local congr] vw_congr runV_congr runH_congr runW_congr runX_congr stuckV_congr stuckX_congr
theorem bs_len (s : ByteArray) : s.data.toList.length = s.size := Array.length_toList
def lowB (b : UInt8) : Bool := decide (97 ≤ (b.toNat : Int)) && decide ((b.toNat : Int) ≤ 122)
def nameOk (s : ByteArray) : Bool := s.data.toList.all lowB && inB s.size 1 6
theorem getD_of {α : Type} {l : List α} {i : Nat} {x d : α} (h : l[i]? = some x) : l.getD i d = x := by
  rw [List.getD_eq_getElem?_getD, h]; rfl
theorem all_bad {s : ByteArray} {i : Nat} {b : UInt8} (h : s.data.toList[i]? = some b) (hb : lowB b = false) : nameOk s = false := by
  have : s.data.toList.all lowB = false := by
    rw [List.all_eq_false]
    exact ⟨b, List.mem_of_getElem? h, by simp [hb]⟩
  simp [nameOk,this]
theorem runs_81 (s : ByteArray) (hs : s.size < 2 ^ 62) : Runs Tryz.prog 81 [.one (.v (.str s))] [.one (.v (.bool (nameOk s)))] [] := by
  refine runs_tab (tab := [(0, .c (.str s))]) (rts := []) (n := 23) (k := 1) Tryz.func81 rfl rfl (by simp) rfl (fun t => ?_) rfl ?_
  · rcases t with _ | t <;> rfl
  refine vw_go rfl ?_; simp only [go_sem,setCells,setIn]
  refine vw_seq ?_
  refine vw_go rfl ?_; simp only [go_sem,setCells,setIn]
  refine vw_block ?_
  refine vw_loop_tab (α := Nat) (fun x => s.size - x) (fun x => ⟨tabE [(0, .c (.str s)), (3, .c (.int .i64 x))], tabS [], 1⟩)
    (fun x => x ≤ s.size ∧ (s.data.toList.drop x).all lowB = s.data.toList.all lowB) (x := 0) ?round ?h0 ?hn
  case h0 => exact ⟨Nat.zero_le _, rfl⟩
  case hn => (refine norm_to [] rfl ?_ ?_ <;> simp only [go_sem])
  rintro i ⟨hi, hm⟩
  refine vw_seq ?_
  refine vw_go rfl ?_; simp only [go_sem,setCells,setIn]
  refine vw_cond (t := decide ((i : Int) < s.size)) rfl (fun h => ?_) (fun h => ?_)
  · refine vw_skip (n_then ?_)
    rcases get_or s.data.toList i with ⟨b, hx, hlt⟩ | ⟨_, hge⟩
    case inr => simp only [decide_eq_true_eq] at h; rw [bs_len] at hge; omega
    rw [bs_len] at hlt
    have c1 : (0:Int) ≤ (i:Int) := by omega
    have c2 : (i:Int) < (s.size : Int) := by omega
    have g := getD_of (d := 0) hx
    rw [drop_of hx, List.all_cons] at hm
    refine vw_seq ?_
    refine vw_block ?_
    by_cases a1 : ((b.toNat : Int) < 97)
    · (refine vw_go rfl ?_; simp only [c1,c2,Int.toNat_natCast,g,a1,go_sem,setCells,setIn])
      refine vw_cond (t := true) rfl (fun h => ?_) (fun h => ?_)
      case refine_2 => cases h
      refine vw_go rfl ?_; simp only [go_sem,setCells,setIn]
      rw [all_bad hx (by simp [lowB]; omega)]
      exact vw_ret (r_block (r_then (r_then (r_block (r_then (e_ret (ret_of rfl rfl (by simp [RB]) rfl rfl)))))))
    · (refine vw_go rfl ?_; simp only [c1,c2,Int.toNat_natCast,g,a1,go_sem,setCells,setIn])
      refine vw_cond (t := decide (122 < (b.toNat : Int))) rfl (fun h => ?_) (fun h => ?_)
      · (refine vw_go rfl ?_; simp only [go_sem,setCells,setIn])
        simp only [decide_eq_true_eq] at h
        rw [all_bad hx (by simp [lowB]; omega)]
        exact vw_ret (r_block (r_then (r_then (r_block (r_then (e_ret (ret_of rfl rfl (by simp [RB]) rfl rfl)))))))
      · refine vw_skip (n_block (n_then ?_))
        have w2 : IntKind.wrap .i64 ((i:Int) + 1) = ((i + 1 : Nat) : Int) := by rw [wrap_i64 (by omega) (by omega)]; rfl
        refine vw_last rfl ?_; simp only [w2,go_sem,setCells,setIn]
        refine (n_then ?_)
        simp only [decide_eq_false_iff_not] at h
        rw [show lowB b = true from by simp [lowB]; omega, Bool.true_and] at hm
        refine ⟨i + 1, by omega, ⟨by omega, hm⟩, ?_⟩
        refine norm_to [] rfl ?_ ?_ <;> simp only [go_sem]
  · refine vw_exit (x_then (x_then (x_block (n_then ?_))))
    simp only [decide_eq_false_iff_not] at h
    have : i = s.size := by omega
    subst this
    rw [← bs_len, List.drop_length, List.all_nil] at hm
    refine vw_go rfl ?_; simp only [go_sem,setCells,setIn]
    refine ⟨_, _, call_rd [0, 0, 0] Tryz.func26 (runs_26 (s.size : Int) 1 6) rfl rfl rfl rfl rfl rfl rfl rfl rfl rfl rfl rfl rfl, ?_⟩
    simp only [runH,runX,go_sem,setCells,setIn]
    rw [show nameOk s = inB s.size 1 6 from by simp [nameOk,← hm]]
    exact vw_ret (e_ret (ret_of rfl rfl (by simp [RB]) rfl rfl))
theorem runs_38 (s : ByteArray) (hs : s.size < 2 ^ 62) : Runs Tryz.prog 38 [.one (.v (.str s))] [.one (.v (.bool (nameOk s)))] [] := by
  refine runs_tab (tab := [(0, .c (.str s))]) (rts := []) (n := 23) (k := 1) Tryz.func38 rfl rfl (by simp) rfl (fun t => ?_) rfl ?_
  · rcases t with _ | t <;> rfl
  refine vw_go rfl ?_; simp only [go_sem,setCells,setIn]
  refine vw_seq ?_
  refine vw_go rfl ?_; simp only [go_sem,setCells,setIn]
  refine vw_block ?_
  refine vw_loop_tab (α := Nat) (fun x => s.size - x) (fun x => ⟨tabE [(0, .c (.str s)), (5, .c (.int .i64 s.size)), (6, .c (.int .i64 x))], tabS [], 1⟩)
    (fun x => x ≤ s.size ∧ (s.data.toList.drop x).all lowB = s.data.toList.all lowB) (x := 0) ?round ?h0 ?hn
  case h0 => exact ⟨Nat.zero_le _, rfl⟩
  case hn => (refine norm_to [] rfl ?_ ?_ <;> simp only [go_sem])
  rintro i ⟨hi, hm⟩
  refine vw_go rfl ?_; simp only [go_sem,setCells,setIn]
  refine vw_seq ?_
  refine vw_cond (t := decide ((i : Int) < s.size)) rfl (fun h => ?_) (fun h => ?_)
  · refine vw_skip (n_then ?_)
    rcases get_or s.data.toList i with ⟨b, hx, hlt⟩ | ⟨_, hge⟩
    case inr => simp only [decide_eq_true_eq] at h; rw [bs_len] at hge; omega
    rw [bs_len] at hlt
    have c1 : (0:Int) ≤ (i:Int) := by omega
    have c2 : (i:Int) < (s.size : Int) := by omega
    have g := getD_of (d := 0) hx
    rw [drop_of hx, List.all_cons] at hm
    refine vw_seq ?_
    refine vw_block ?_
    refine vw_go rfl ?_; simp only [go_sem,setCells,setIn]
    by_cases a1 : ((b.toNat : Int) < 97)
    · (refine vw_go rfl ?_; simp only [c1,c2,Int.toNat_natCast,g,a1,go_sem,setCells,setIn])
      refine vw_cond (t := true) rfl (fun h => ?_) (fun h => ?_)
      case refine_2 => cases h
      refine vw_go rfl ?_; simp only [go_sem,setCells,setIn]
      rw [all_bad hx (by simp [lowB]; omega)]
      exact vw_ret (r_block (r_then (r_then (r_block (r_then (e_ret (ret_of rfl rfl (by simp [RB]) rfl rfl)))))))
    · (refine vw_go rfl ?_; simp only [c1,c2,Int.toNat_natCast,g,a1,go_sem,setCells,setIn])
      refine vw_cond (t := decide (122 < (b.toNat : Int))) rfl (fun h => ?_) (fun h => ?_)
      · (refine vw_go rfl ?_; simp only [go_sem,setCells,setIn])
        simp only [decide_eq_true_eq] at h
        rw [all_bad hx (by simp [lowB]; omega)]
        exact vw_ret (r_block (r_then (r_then (r_block (r_then (e_ret (ret_of rfl rfl (by simp [RB]) rfl rfl)))))))
      · refine vw_skip (n_block (n_then ?_))
        have w2 : IntKind.wrap .i64 ((i:Int) + 1) = ((i + 1 : Nat) : Int) := by rw [wrap_i64 (by omega) (by omega)]; rfl
        refine vw_last rfl ?_; simp only [w2,go_sem,setCells,setIn]
        refine (n_then ?_)
        simp only [decide_eq_false_iff_not] at h
        rw [show lowB b = true from by simp [lowB]; omega, Bool.true_and] at hm
        refine ⟨i + 1, by omega, ⟨by omega, hm⟩, ?_⟩
        refine norm_to [] rfl ?_ ?_ <;> simp only [go_sem]
  · refine vw_exit (x_then (x_then (x_block (n_then ?_))))
    simp only [decide_eq_false_iff_not] at h
    have : i = s.size := by omega
    subst this
    rw [← bs_len, List.drop_length, List.all_nil] at hm
    refine vw_go rfl ?_; simp only [go_sem,setCells,setIn]
    refine ⟨_, _, call_rd [0, 0, 0] Tryz.func24 (runs_24 (s.size : Int) 1 6) rfl rfl rfl rfl rfl rfl rfl rfl rfl rfl rfl rfl rfl, ?_⟩
    simp only [runH,runX,go_sem,setCells,setIn]
    rw [show nameOk s = inB s.size 1 6 from by simp [nameOk,← hm]]
    exact vw_ret (e_ret (ret_of rfl rfl (by simp [RB]) rfl rfl))
end Go.Proofs.YtkijdbljnefeaaaGreatDoor
