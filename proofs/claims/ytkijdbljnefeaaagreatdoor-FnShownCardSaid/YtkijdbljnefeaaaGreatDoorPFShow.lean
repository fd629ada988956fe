/- What FnShown draws; CodeText of both. What FnPlaces draws. ChipText of both. -/
import Derived.Test.YtkijdbljnefeaaaGreatDoorPFName
import Derived.Test.YtkijdbljnefeaaaGreatDoorPFDrawJ
import Derived.Test.YtkijdbljnefeaaaGreatDoorPFPlaceD
set_option linter.unusedSimpArgs false
set_option linter.unusedVariables false
namespace Go.Proofs.YtkijdbljnefeaaaGreatDoor
open Go.VM Go
set_option maxRecDepth 100000
attribute [-go_sem] runW_cons
attribute [local congr] vw_congr runV_congr runH_congr runW_congr runX_congr stuckV_congr stuckX_congr
def codeS : List ByteArray := [⟨#[100, 111, 110, 101]⟩, ⟨#[98, 97, 100]⟩, ⟨#[110, 111, 110, 101]⟩, ⟨#[116, 104, 101, 114, 101]⟩, ⟨#[107, 105, 110, 100]⟩, ⟨#[102, 117, 108, 108]⟩, ⟨#[98, 117, 115, 121]⟩, ⟨#[112, 111, 119, 101, 114]⟩]
def codeT (k : Int) : ByteArray := if inB k 0 7 = true then codeS.getD k.toNat ⟨#[]⟩ else ⟨#[]⟩
theorem codeS_get {K : Nat} (h : K < 8) : List.getD [[T.str ⟨#[100, 111, 110, 101]⟩], [T.str ⟨#[98, 97, 100]⟩], [T.str ⟨#[110, 111, 110, 101]⟩], [T.str ⟨#[116, 104, 101, 114, 101]⟩], [T.str ⟨#[107, 105, 110, 100]⟩], [T.str ⟨#[102, 117, 108, 108]⟩], [T.str ⟨#[98, 117, 115, 121]⟩], [T.str ⟨#[112, 111, 119, 101, 114]⟩]] K [] = [.str (codeS.getD K ⟨#[]⟩)] := by
  rcases K with _ | _ | _ | _ | _ | _ | _ | _ | K
  all_goals first | rfl | omega
theorem runs_10 (k : Int) : Runs Tryz.prog 10 [.one (.v (.int .i64 k))] [.one (.v (.str (codeT k)))] [] := by
  refine runs_tab (tab := [(0, .c (.int .i64 k))]) (rts := []) (n := 10) (k := 1) Tryz.func10 rfl rfl (by simp) rfl (fun t => ?_) rfl ?_
  · rcases t with _ | t <;> rfl
  have rI := runs_24 k 0 7
  refine vw_go rfl ?_; simp only [go_sem,setCells,setIn]
  refine vw_seq ?_
  refine vw_go rfl ?_; simp only [go_sem,setCells,setIn]
  refine ⟨_, _, call_rd [0, 0, 0] Tryz.func24 (rI) rfl rfl rfl rfl rfl rfl rfl rfl rfl rfl rfl rfl rfl, ?_⟩
  cases h : inB k 0 7
  · rw [show codeT k = ⟨#[]⟩ from by unfold codeT; rw [h]; rfl]
    simp only [runH,runX,go_sem,setCells,setIn]
    refine vw_cond (t := true) rfl (fun _ => ?_) (fun h => nomatch h)
    refine vw_go rfl ?_; simp only [go_sem,setCells,setIn]
    exact vw_ret (r_then (e_ret (ret_of rfl rfl (by simp [RB]) rfl rfl)))
  have hk : 0 ≤ k ∧ k ≤ 7 := by simpa [inB] using h
  obtain ⟨K, rfl⟩ : ∃ K : Nat, k = K := ⟨k.toNat, by omega⟩
  have c0 : (0:Int) ≤ (K : Int) := by omega
  have c1 : (K:Int) < ((8 : Nat) : Int) := by omega
  have c2 : K < 8 := by omega
  have e1 := codeS_get c2
  rw [show codeT (K : Int) = codeS.getD K ⟨#[]⟩ from by unfold codeT; rw [h, if_pos rfl, Int.toNat_natCast]]
  simp only [runH,runX,go_sem,setCells,setIn]
  refine vw_cond (t := false) rfl (fun h => nomatch h) (fun _ => ?_)
  refine vw_skip (n_then ?_)
  generalize codeS.getD K ⟨#[]⟩ = q at e1
  refine vw_go rfl ?_; simp only [range1,List.replicate_succ,List.replicate_zero,List.flatten_cons,List.flatten_nil,List.range_zero,gt_iff_lt,c0,c1,c2,e1,Int.toNat_natCast,go_sem,setCells,setIn]
  exact vw_ret (e_ret (ret_of rfl rfl (by simp [RB]) rfl rfl))
theorem runs_13 (k : Int) : Runs Tryz.prog 13 [.one (.v (.int .i64 k))] [.one (.v (.str (codeT k)))] [] := by
  refine runs_tab (tab := [(0, .c (.int .i64 k))]) (rts := []) (n := 10) (k := 1) Tryz.func13 rfl rfl (by simp) rfl (fun t => ?_) rfl ?_
  · rcases t with _ | t <;> rfl
  have rI := runs_26 k 0 7
  refine vw_go rfl ?_; simp only [go_sem,setCells,setIn]
  refine vw_seq ?_
  refine vw_go rfl ?_; simp only [go_sem,setCells,setIn]
  refine ⟨_, _, call_rd [0, 0, 0] Tryz.func26 (rI) rfl rfl rfl rfl rfl rfl rfl rfl rfl rfl rfl rfl rfl, ?_⟩
  cases h : inB k 0 7
  · rw [show codeT k = ⟨#[]⟩ from by unfold codeT; rw [h]; rfl]
    simp only [runH,runX,go_sem,setCells,setIn]
    refine vw_cond (t := true) rfl (fun _ => ?_) (fun h => nomatch h)
    refine vw_go rfl ?_; simp only [go_sem,setCells,setIn]
    exact vw_ret (r_then (e_ret (ret_of rfl rfl (by simp [RB]) rfl rfl)))
  have hk : 0 ≤ k ∧ k ≤ 7 := by simpa [inB] using h
  obtain ⟨K, rfl⟩ : ∃ K : Nat, k = K := ⟨k.toNat, by omega⟩
  have c0 : (0:Int) ≤ (K : Int) := by omega
  have c1 : (K:Int) < ((8 : Nat) : Int) := by omega
  have c2 : K < 8 := by omega
  have e1 := codeS_get c2
  rw [show codeT (K : Int) = codeS.getD K ⟨#[]⟩ from by unfold codeT; rw [h, if_pos rfl, Int.toNat_natCast]]
  simp only [runH,runX,go_sem,setCells,setIn]
  refine vw_cond (t := false) rfl (fun h => nomatch h) (fun _ => ?_)
  refine vw_skip (n_then ?_)
  generalize codeS.getD K ⟨#[]⟩ = q at e1
  refine vw_go rfl ?_; simp only [range1,List.replicate_succ,List.replicate_zero,List.flatten_cons,List.flatten_nil,List.range_zero,gt_iff_lt,c0,c1,c2,e1,Int.toNat_natCast,go_sem,setCells,setIn]
  exact vw_ret (e_ret (ret_of rfl rfl (by simp [RB]) rfl rfl))
theorem runs_7 (L : List UInt8) (hL : L.length < 2 ^ 60) (k : Int) (hk : k = belV L (newC L) 11 - 1) : Runs Tryz.prog 7 [.one (.v (.list false 1 (L.map bRow)))] [.one (.v (.int .i64 k))] [] := by
  refine runs_hold (fun v => ?_)
  refine runs_tab (tab := [(0, .c (.held v 1 (L.map bRow)))]) (rts := []) (n := 7) (k := 1) Tryz.func7 rfl rfl (by simp) rfl (fun t => ?_) rfl ?_
  · rcases t with _ | t <;> rfl
  have rN := runs_19 v L hL _ rfl
  generalize newC L = c at rN hk
  have rB := runs_21 v L hL c 11 (by decide) (by decide)
  have hb := belV_in L c (n := 11) (by decide)
  generalize belV L c 11 = b at rB hk hb
  have w1 : IntKind.wrap .i64 (b - 1) = k := by rw [wrap_i64 (by omega) (by omega), hk]
  refine vw_go rfl ?_; simp only [go_sem,setCells,setIn]
  refine vw_go rfl ?_; simp only [go_sem,setCells,setIn]
  refine ⟨_, _, call_fine [0] Tryz.func19 (rN) rfl rfl rfl rfl rfl rfl rfl (by simp [lendAll,lendC,seek,fresh,nav,rcells,RT.cells,VV.cells,tabE_cons,tabS_cons,ev,take_map_len]) rfl (by simp [rcells,RT.cells,CT.fine,fineR,T.fine,Known,VV.cells,ev,tabE_cons]) rfl rfl, ?_⟩
  simp only [runH,runX,go_sem,setCells,setIn]
  refine ⟨_, _, call_pt [0, 0] 66561 Tryz.func21 (rB) rfl rfl rfl rfl rfl rfl rfl rfl (by simp [lendAll,lendC,seek,fresh,nav,rcells,RT.cells,VV.cells,tabE_cons,tabS_cons,St.put,ev,lit,take_map_len]) rfl rfl (by simp [rcells,RT.cells,CT.fine,T.fine]) (by exact ⟨.inr ⟨66561, _, _, rfl, .head _, .head _⟩, trivial, trivial, trivial⟩) rfl rfl, ?_⟩
  simp only [runH,runX,w1,go_sem,setCells,setIn]
  exact vw_ret (e_ret (ret_by rfl rfl (by simp [RB]) rfl (by simp only [takeCs,takeC,go_sem,setCells,setIn])))
theorem runs_6 (L : List UInt8) (hL : L.length < 2 ^ 60) (f : FtlV) (hf : f = (drawFt L (newC L)).1) : Runs Tryz.prog 6 [.one (.v (.list false 1 (L.map bRow)))] [.agg [.v (.list true 1 (f.pages.map sRow)), .v (.list true 1 (f.wear.map nRow)), .v (.list true 1 (f.map.map nRow)), .v (.int .i64 f.seq)]] [] := by
  refine runs_hold (fun v => ?_)
  refine runs_tab (tab := [(0, .c (.held v 1 (L.map bRow)))]) (rts := []) (n := 6) (k := 1) Tryz.func6 rfl rfl (by simp) rfl (fun t => ?_) rfl ?_
  · rcases t with _ | t <;> rfl
  have rN := runs_19 v L hL _ rfl
  generalize newC L = c at rN hf
  have rP := runs_20 v L hL c f (drawFt L c).2 (by rw [hf])
  have gp : List.take f.pages.length (f.pages.map sRow) = f.pages.map sRow := List.take_of_length_le (by simp)
  have gw : List.take f.wear.length (f.wear.map nRow) = f.wear.map nRow := List.take_of_length_le (by simp)
  have gm : List.take f.map.length (f.map.map nRow) = f.map.map nRow := List.take_of_length_le (by simp)
  refine vw_go rfl ?_; simp only [go_sem,setCells,setIn]
  refine vw_go rfl ?_; simp only [go_sem,setCells,setIn]
  refine ⟨_, _, call_fine [0] Tryz.func19 (rN) rfl rfl rfl rfl rfl rfl rfl (by simp [lendAll,lendC,seek,fresh,nav,rcells,RT.cells,VV.cells,tabE_cons,tabS_cons,ev,take_map_len]) rfl (by simp [rcells,RT.cells,CT.fine,fineR,T.fine,Known,VV.cells,ev,tabE_cons]) rfl rfl, ?_⟩
  simp only [runH,runX,go_sem,setCells,setIn]
  refine ⟨_, _, call_pt [0] 66561 Tryz.func20 (rP) rfl rfl rfl rfl rfl rfl rfl rfl (by simp [lendAll,lendC,seek,fresh,nav,rcells,RT.cells,VV.cells,tabE_cons,tabS_cons,St.put,ev,lit,take_map_len,sRow_r1,sRow_comp,sRow_clean,nRow_r1,nRow_comp,nRow_clean,iRow_r1,iRow_clean,sRow_fq,nRow_fq]) rfl rfl (by simp [rcells,RT.cells,CT.fine,T.fine,sRow_r1,sRow_comp,sRow_clean,nRow_r1,nRow_comp,nRow_clean,iRow_r1,iRow_clean,sRow_fq,nRow_fq]) (by exact ⟨.inr ⟨66561, _, _, rfl, .head _, .head _⟩, trivial, trivial, trivial⟩) rfl rfl, ?_⟩
  simp only [runH,runX,gp,gw,gm,List.drop_length,go_sem,setCells,setIn]
  exact vw_ret (e_ret (ret_by rfl rfl (by simp [RB]) rfl (by simp only [takeCs,takeC,go_sem,setCells,setIn])))
theorem runs_5 (L : List UInt8) (hL : L.length < 2 ^ 60) (l : List It3) (hl : l = (drawI L (newC L)).1) : Runs Tryz.prog 5 [.one (.v (.list false 1 (L.map bRow)))] [.one (.v (.list true 3 (l.map iRow)))] [] := by
  refine runs_hold (fun v => ?_)
  refine runs_tab (tab := [(0, .c (.held v 1 (L.map bRow)))]) (rts := []) (n := 6) (k := 1) Tryz.func5 rfl rfl (by simp) rfl (fun t => ?_) rfl ?_
  · rcases t with _ | t <;> rfl
  have rN := runs_19 v L hL _ rfl
  generalize newC L = c at rN hl
  have rP := runs_18 v L hL c l (drawI L c).2 (by rw [hl])
  have bl : List.take l.length (l.map iRow) = l.map iRow := List.take_of_length_le (by simp)
  refine vw_go rfl ?_; simp only [go_sem,setCells,setIn]
  refine vw_go rfl ?_; simp only [go_sem,setCells,setIn]
  refine ⟨_, _, call_fine [0] Tryz.func19 (rN) rfl rfl rfl rfl rfl rfl rfl (by simp [lendAll,lendC,seek,fresh,nav,rcells,RT.cells,VV.cells,tabE_cons,tabS_cons,ev,take_map_len]) rfl (by simp [rcells,RT.cells,CT.fine,fineR,T.fine,Known,VV.cells,ev,tabE_cons]) rfl rfl, ?_⟩
  simp only [runH,runX,go_sem,setCells,setIn]
  refine ⟨_, _, call_pt [0] 66561 Tryz.func18 (rP) rfl rfl rfl rfl rfl rfl rfl rfl (by simp [lendAll,lendC,seek,fresh,nav,rcells,RT.cells,VV.cells,tabE_cons,tabS_cons,St.put,ev,lit,take_map_len,sRow_r1,sRow_comp,sRow_clean,nRow_r1,nRow_comp,nRow_clean,iRow_r1,iRow_clean,iRow_fine]) rfl rfl (by simp [rcells,RT.cells,CT.fine,T.fine,sRow_r1,sRow_comp,sRow_clean,nRow_r1,nRow_comp,nRow_clean,iRow_r1,iRow_clean,iRow_fine]) (by exact ⟨.inr ⟨66561, _, _, rfl, .head _, .head _⟩, trivial, trivial, trivial⟩) rfl rfl, ?_⟩
  simp only [runH,runX,bl,go_sem,setCells,setIn]
  exact vw_ret (e_ret (ret_by rfl rfl (by simp [RB]) rfl (by simp only [takeCs,takeC,go_sem,setCells,setIn])))
def verbL : List ByteArray := [⟨#[102, 105, 108, 101, 32]⟩, ⟨#[100, 105, 114, 32]⟩, ⟨#[103, 101, 116, 32]⟩, ⟨#[100, 114, 111, 112, 32]⟩, ⟨#[108, 105, 115, 116, 32]⟩]
def whereL : List ByteArray := [⟨#[97]⟩, ⟨#[98]⟩, ⟨#[97, 47, 98]⟩, ⟨#[46]⟩, ⟨#[97, 47, 98, 47, 97]⟩, ⟨#[99, 100]⟩]
def tailL : List ByteArray := [⟨#[]⟩, ⟨#[]⟩, ⟨#[32]⟩, ⟨#[47]⟩, ⟨#[120]⟩]
def lineL : List ByteArray := [⟨#[112, 117, 116, 32, 97, 32, 120, 32, 121]⟩, ⟨#[112, 117, 116, 32, 97, 32]⟩, ⟨#[112, 117, 116, 32, 97]⟩, ⟨#[109, 111, 118, 101, 32, 97, 32, 98]⟩, ⟨#[109, 111, 118, 101, 32, 97]⟩, ⟨#[109, 111, 118, 101, 32, 97, 32, 46]⟩, ⟨#[102, 108, 121, 32, 97]⟩, ⟨#[]⟩, ⟨#[108, 105, 115, 116]⟩, ⟨#[112, 117, 116, 32, 46, 32, 113]⟩, ⟨#[109, 111, 118, 101, 32, 97, 32, 98, 32, 99]⟩]
def drawVerb (L : List UInt8) (c : Cur) : ByteArray := pickV L c verbL ⟨#[]⟩ ++ pickV L (byteC L c) whereL ⟨#[]⟩
theorem runs_28 (v : Value) (L : List UInt8) (hL : L.length < 2 ^ 60) (c : Cur) (C : Cur) (hC : C = byteC L (byteC L c)) : Runs Tryz.prog 28 [.one (.box [.held v 1 (L.map bRow), .int .i64 c.i, .int .i64 c.h])] [.one (.v (.str (drawVerb L c)))] [(0, ⟨true, 3, [[.held v 1 (L.map bRow), .int .i64 C.i, .int .i64 C.h]], []⟩)] := by
  refine runs_tabB (tab := [(0, .ptr 0 [] 0 0 0)]) (rts := [(0, some ⟨true, 3, [[.held v 1 (L.map bRow), .int .i64 c.i, .int .i64 c.h]], []⟩)]) (n := 10) (k := 1) Tryz.func28 rfl rfl (by simp) rfl (fun t => ?_) rfl ?_
  · rcases t with _ | t <;> rfl
  have rP := runs_29 v L hL c verbL (by decide) (by decide)
  have rQ := runs_29 v L hL (byteC L c) whereL (by decide) (by decide)
  subst hC
  unfold drawVerb
  have z1 : (pickV L c verbL ⟨#[]⟩).size ≤ 100 := by
    have h0 : ∀ x ∈ verbL, x.size ≤ 100 := by decide
    exact h0 _ (pickV_mem L _ _ (by decide))
  have z2 : (pickV L (byteC L c) whereL ⟨#[]⟩).size ≤ 100 := by
    have h0 : ∀ x ∈ whereL, x.size ≤ 100 := by decide
    exact h0 _ (pickV_mem L _ _ (by decide))
  generalize pickV L c verbL ⟨#[]⟩ = a at rP z1
  generalize pickV L (byteC L c) whereL ⟨#[]⟩ = b at rQ z2
  have A1 : a.size + b.size < 2 ^ 60 := by omega
  refine vw_go rfl ?_; simp only [go_sem,setCells,setIn]
  refine vw_go rfl ?_; simp only [range1,List.replicate_succ,List.replicate_zero,List.flatten_cons,List.flatten_nil,List.range_zero,gt_iff_lt,go_sem,setCells,setIn]
  refine ⟨_, _, call_pt [0, 0] 0 Tryz.func29 (rP) rfl rfl rfl rfl rfl rfl rfl rfl (by simp [lendAll,lendC,seek,fresh,nav,rcells,RT.cells,VV.cells,tabE_cons,tabS_cons,St.put,ev,lit,take_map_len,sRow,verbL]) rfl rfl (by simp [rcells,RT.cells,CT.fine,T.fine,sRow,verbL]) (by exact ⟨.inr ⟨0, _, _, rfl, .head _, .head _⟩, trivial, trivial, trivial⟩) rfl rfl, ?_⟩
  simp only [runH,runX,range1,List.replicate_succ,List.replicate_zero,List.flatten_cons,List.flatten_nil,List.range_zero,gt_iff_lt,go_sem,setCells,setIn]
  refine ⟨_, _, call_pt [0, 0] 0 Tryz.func29 (rQ) rfl rfl rfl rfl rfl rfl rfl rfl (by simp [lendAll,lendC,seek,fresh,nav,rcells,RT.cells,VV.cells,tabE_cons,tabS_cons,St.put,ev,lit,take_map_len,sRow,whereL]) rfl rfl (by simp [rcells,RT.cells,CT.fine,T.fine,sRow,whereL]) (by exact ⟨.inr ⟨0, _, _, rfl, .head _, .head _⟩, trivial, trivial, trivial⟩) rfl rfl, ?_⟩
  simp only [runH,runX,A1,go_sem,setCells,setIn]
  exact vw_ret (e_ret (ret_b rfl rfl (by simp [RB]) rfl rfl ⟨⟨by simp, _, rfl, rfl, rfl, rfl⟩, trivial⟩))
theorem drawVerb_size (L : List UInt8) (c : Cur) : (drawVerb L c).size ≤ 200 := by
  have h1 : ∀ x ∈ verbL, x.size ≤ 100 := by decide
  have h2 : ∀ x ∈ whereL, x.size ≤ 100 := by decide
  unfold drawVerb
  have a1 := h1 _ (pickV_mem L c (l := verbL) ⟨#[]⟩ (by decide))
  have a2 := h2 _ (pickV_mem L (byteC L c) (l := whereL) ⟨#[]⟩ (by decide))
  rw [ByteArray.size_append]
  omega
def drawLine (L : List UInt8) (c : Cur) : ByteArray :=
  if belV L c 2 = 0 then drawVerb L (byteC L c) ++ pickV L (byteC L (byteC L (byteC L c))) tailL ⟨#[]⟩ else pickV L (byteC L c) lineL ⟨#[]⟩
theorem runs_14 (L : List UInt8) (hL : L.length < 2 ^ 60) (s : ByteArray) (hs : s = drawLine L (newC L)) : Runs Tryz.prog 14 [.one (.v (.list false 1 (L.map bRow)))] [.one (.v (.str s))] [] := by
  refine runs_hold (fun v => ?_)
  refine runs_tab (tab := [(0, .c (.held v 1 (L.map bRow)))]) (rts := []) (n := 17) (k := 1) Tryz.func14 rfl rfl (by simp) rfl (fun t => ?_) rfl ?_
  · rcases t with _ | t <;> rfl
  have rN := runs_19 v L hL _ rfl
  generalize newC L = c at rN hs
  have rO := runs_27 v L hL c 2 (by decide) (by decide)
  have rA := runs_28 v L hL (byteC L c) _ rfl
  have rP := runs_29 v L hL (byteC L (byteC L (byteC L c))) tailL (by decide) (by decide)
  have rQ := runs_29 v L hL (byteC L c) lineL (by decide) (by decide)
  unfold drawLine at hs
  refine vw_go rfl ?_; simp only [go_sem,setCells,setIn]
  refine vw_go rfl ?_; simp only [go_sem,setCells,setIn]
  refine ⟨_, _, call_fine [0] Tryz.func19 (rN) rfl rfl rfl rfl rfl rfl rfl (by simp [lendAll,lendC,seek,fresh,nav,rcells,RT.cells,VV.cells,tabE_cons,tabS_cons,ev,take_map_len]) rfl (by simp [rcells,RT.cells,CT.fine,fineR,T.fine,Known,VV.cells,ev,tabE_cons]) rfl rfl, ?_⟩
  simp only [runH,runX,go_sem,setCells,setIn]
  refine vw_seq ?_
  refine vw_go rfl ?_; simp only [go_sem,setCells,setIn]
  refine ⟨_, _, call_pt [0, 0] 66561 Tryz.func27 (rO) rfl rfl rfl rfl rfl rfl rfl rfl (by simp [lendAll,lendC,seek,fresh,nav,rcells,RT.cells,VV.cells,tabE_cons,tabS_cons,St.put,ev,lit,take_map_len]) rfl rfl (by simp [rcells,RT.cells,CT.fine,T.fine]) (by exact ⟨.inr ⟨66561, _, _, rfl, .head _, .head _⟩, trivial, trivial, trivial⟩) rfl rfl, ?_⟩
  simp only [runH,runX,go_sem,setCells,setIn]
  by_cases h : belV L c 2 = 0
  · rw [if_pos h] at hs
    refine vw_cond (t := true) (by simp [ev,tabE_cons,h]) (fun _ => ?_) (fun h => nomatch h)
    have z1 := drawVerb_size L (byteC L c)
    have z2 : (pickV L (byteC L (byteC L (byteC L c))) tailL ⟨#[]⟩).size ≤ 100 := by
      have h0 : ∀ x ∈ tailL, x.size ≤ 100 := by decide
      exact h0 _ (pickV_mem L _ _ (by decide))
    generalize drawVerb L (byteC L c) = a at rA hs z1
    generalize pickV L (byteC L (byteC L (byteC L c))) tailL ⟨#[]⟩ = b at rP hs z2
    have A1 : a.size + b.size < 2 ^ 60 := by omega
    refine vw_go rfl ?_; simp only [go_sem,setCells,setIn]
    refine ⟨_, _, call_pt [0] 66561 Tryz.func28 (rA) rfl rfl rfl rfl rfl rfl rfl rfl (by simp [lendAll,lendC,seek,fresh,nav,rcells,RT.cells,VV.cells,tabE_cons,tabS_cons,St.put,ev,lit,take_map_len]) rfl rfl (by simp [rcells,RT.cells,CT.fine,T.fine]) (by exact ⟨.inr ⟨66561, _, _, rfl, .head _, .head _⟩, trivial, trivial, trivial⟩) rfl rfl, ?_⟩
    simp only [runH,runX,range1,List.replicate_succ,List.replicate_zero,List.flatten_cons,List.flatten_nil,List.range_zero,gt_iff_lt,go_sem,setCells,setIn]
    refine ⟨_, _, call_pt [0, 0] 66561 Tryz.func29 (rP) rfl rfl rfl rfl rfl rfl rfl rfl (by simp [lendAll,lendC,seek,fresh,nav,rcells,RT.cells,VV.cells,tabE_cons,tabS_cons,St.put,ev,lit,take_map_len,sRow,tailL]) rfl rfl (by simp [rcells,RT.cells,CT.fine,T.fine,sRow,tailL]) (by exact ⟨.inr ⟨66561, _, _, rfl, .head _, .head _⟩, trivial, trivial, trivial⟩) rfl rfl, ?_⟩
    simp only [runH,runX,A1,go_sem,setCells,setIn]
    subst hs
    exact vw_ret (r_then (e_ret (ret_by rfl rfl (by simp [RB]) rfl (by simp only [takeCs,takeC,go_sem,setCells,setIn]))))
  · rw [if_neg h] at hs
    refine vw_cond (t := false) (by simp [ev,tabE_cons,h]) (fun h => nomatch h) (fun _ => ?_)
    refine vw_skip (n_then ?_)
    refine vw_go rfl ?_; simp only [range1,List.replicate_succ,List.replicate_zero,List.flatten_cons,List.flatten_nil,List.range_zero,gt_iff_lt,go_sem,setCells,setIn]
    refine ⟨_, _, call_pt [0, 0] 66561 Tryz.func29 (rQ) rfl rfl rfl rfl rfl rfl rfl rfl (by simp [lendAll,lendC,seek,fresh,nav,rcells,RT.cells,VV.cells,tabE_cons,tabS_cons,St.put,ev,lit,take_map_len,sRow,lineL]) rfl rfl (by simp [rcells,RT.cells,CT.fine,T.fine,sRow,lineL]) (by exact ⟨.inr ⟨66561, _, _, rfl, .head _, .head _⟩, trivial, trivial, trivial⟩) rfl rfl, ?_⟩
    simp only [runH,runX,go_sem,setCells,setIn]
    subst hs
    exact vw_ret (e_ret (ret_by rfl rfl (by simp [RB]) rfl (by simp only [takeCs,takeC,go_sem,setCells,setIn])))
theorem drawLine_size (L : List UInt8) (c : Cur) : (drawLine L c).size ≤ 300 := by
  have h3 : ∀ x ∈ tailL, x.size ≤ 100 := by decide
  have h4 : ∀ x ∈ lineL, x.size ≤ 100 := by decide
  unfold drawLine
  split
  · have a1 := drawVerb_size L (byteC L c)
    have a3 := h3 _ (pickV_mem L (byteC L (byteC L (byteC L c))) (l := tailL) ⟨#[]⟩ (by decide))
    rw [ByteArray.size_append]
    omega
  · have a4 := h4 _ (pickV_mem L (byteC L c) (l := lineL) ⟨#[]⟩ (by decide))
    omega
end Go.Proofs.YtkijdbljnefeaaaGreatDoor
namespace Go.Proofs.YtkijdbljnefeaaaGreatDoor
open Go.VM Go
set_option maxRecDepth 100000
attribute [-go_sem] runW_cons
attribute [local congr] vw_congr runV_congr runH_congr runW_congr runX_congr stuckV_congr stuckX_congr
theorem growT_size2 {L : List UInt8} {b : UInt8} {m : Nat} (n : Nat) (c : Cur) : (growT L b m n c ⟨#[]⟩).1.size ≤ m + 2 := growT_size n c _ (Nat.zero_le _)
theorem textL_sm : ∀ x ∈ textL, x.size ≤ 1000 := by decide
theorem drawText_size (L : List UInt8) (c : Cur) : (drawText L c).1.size ≤ 1000 := by
  unfold drawText
  split
  · exact Nat.le_trans (growT_size2 (m := 400) 402 _) (by decide)
  · exact textL_sm _ (pickV_mem L (byteC L c) (l := textL) ⟨#[]⟩ (by decide))
structure Chip2.small (X : Chip2) : Prop where
  pages : X.1.length ≤ 60
  wear : X.2.length ≤ 10
  text : ∀ s ∈ X.1, s.size ≤ 1000
theorem drawC_small (L : List UInt8) (c : Cur) : Chip2.small (drawC L c).1 := by
  have h := (ftlRight_good L c).shape
  have hs : ∀ s ∈ (ftlRight L c).1.pages, s.size ≤ 1000 := fun s hs => Nat.le_trans (h.ps s hs) (by decide)
  unfold drawC
  generalize ftlRight L c = r at h hs
  obtain ⟨f, d⟩ := r
  simp only at h hs ⊢
  split
  · exact ⟨by simp [h.pl], by simp [h.wl], fun s hm => hs s (List.mem_of_mem_drop hm)⟩
  split
  · exact ⟨by simp [h.pl], by simp [h.wl], hs⟩
  split
  · refine ⟨by simp [h.pl], by simp [h.wl], fun s hm => ?_⟩
    rcases List.mem_or_eq_of_mem_set hm with h1 | rfl
    · exact hs s h1
    · exact drawText_size L _
  split
  · exact ⟨by simp [h.pl], by simp, hs⟩
  · exact ⟨by simp [h.pl], by simp [h.wl], hs⟩
theorem Chip2.small.ftl {X : Chip2} (h : X.small) {m : List Int} (hm : m.length ≤ 26) (q : Int) : FtlV.small ⟨X.1, X.2, m, q⟩ :=
  ⟨Nat.le_trans h.pages (by decide), Nat.le_trans h.wear (by decide), Nat.le_trans hm (by decide), fun s hs => Nat.lt_of_le_of_lt (h.text s hs) (by decide)⟩
theorem drawFt_small (L : List UInt8) (c : Cur) : FtlV.small (drawFt L c).1 := by
  have h := (ftlRight_good L c).shape
  have hs : Chip2.small ((ftlRight L c).1.pages, (ftlRight L c).1.wear) := ⟨by rw [h.pl]; exact Nat.le_refl _, by rw [h.wl]; exact Nat.le_refl _, fun s hs => Nat.le_trans (h.ps s hs) (by decide)⟩
  have hm : (ftlRight L c).1.map.length ≤ 26 := by rw [h.ml]; exact Nat.le_refl _
  unfold drawFt
  split
  · exact hs.ftl (by rw [List.length_set]; exact hm) _
  split
  · exact hs.ftl hm _
  split
  · exact (drawC_small L _).ftl hm _
  split
  · exact hs.ftl (Nat.zero_le _) _
  · exact hs.ftl hm _
end Go.Proofs.YtkijdbljnefeaaaGreatDoor
namespace Go.Proofs.YtkijdbljnefeaaaGreatDoor
open Go.VM Go
set_option maxRecDepth 100000
attribute [local congr] vw_congr runV_congr runH_congr runW_congr runX_congr stuckV_congr stuckX_congr
theorem ba_nil (s : ByteArray) : s ++ (⟨#[]⟩ : ByteArray) = s := ByteArray.append_empty
def hasP (l : List Int) (p : Int) : Bool := l.any fun x => decide (p = x)
theorem hasP_take {l : List Int} {k : Nat} {x : Int} (p : Int) (h : l[k]? = some x) : hasP (l.take (k + 1)) p = (hasP (l.take k) p || decide (p = x)) := by
  simp [hasP,List.take_add_one,h]
theorem hasP_mem {l : List Int} {p : Int} (h : hasP l p = true) : ∃ n : Nat, l[n]? = some p := by
  simp only [hasP,List.any_eq_true,decide_eq_true_eq] at h
  obtain ⟨x, hx, rfl⟩ := h
  exact List.mem_iff_getElem?.1 hx
def sepS (i : Nat) : ByteArray := if 0 < i ∧ i % 6 = 0 then ⟨#[32]⟩ else ⟨#[]⟩
def let0 (u : ByteArray) : ByteArray := if u = ⟨#[]⟩ then ⟨#[46]⟩ else ⟨#[120]⟩
def letG (l : List Int) (u : ByteArray) (i : Nat) : ByteArray := if hasP l i = true then ⟨#[111]⟩ else let0 u
theorem let0_size (u : ByteArray) : (let0 u).size = 1 := by unfold let0; split <;> rfl
theorem letG_size (l : List Int) (u : ByteArray) (i : Nat) : (letG l u i).size = 1 := by
  unfold letG
  split
  · rfl
  · exact let0_size u
theorem sepS_size (i : Nat) : (sepS i).size ≤ 1 := by unfold sepS; split <;> decide
def showTo (f : FtlV) : Nat → ByteArray
  | 0 => ⟨#[]⟩
  | i + 1 => (showTo f i ++ sepS i) ++ letG f.map (f.pages.getD i ⟨#[]⟩) i
theorem showTo_size (f : FtlV) : ∀ i, (showTo f i).size ≤ 2 * i
  | 0 => Nat.le_refl _
  | i + 1 => by
    have := showTo_size f i
    have h1 := sepS_size i
    have h2 := letG_size f.map (f.pages.getD i ⟨#[]⟩) i
    simp only [showTo,ByteArray.size_append]; omega
def showF (f : FtlV) : ByteArray := if ftlOk f = true then showTo f f.pages.length else ⟨#[]⟩
theorem runs_12 (f : FtlV) (hs : f.small) : Runs Tryz.prog 12 [.agg [.v (.list false 1 (f.pages.map sRow)), .v (.list false 1 (f.wear.map nRow)), .v (.list false 1 (f.map.map nRow)), .v (.int .i64 f.seq)]] [.one (.v (.str (showF f)))] [] := by
  refine runs_tab (tab := [(0, .agg [.c (.list false 1 (f.pages.map sRow)), .c (.list false 1 (f.wear.map nRow)), .c (.list false 1 (f.map.map nRow)), .c (.int .i64 f.seq)])]) (rts := []) (n := 52) (k := 4) Tryz.func12 rfl rfl (by simp) rfl (fun t => ?_) rfl ?_
  · rcases t with _ | t <;> rfl
  have rO := runs_25 f hs
  have hp := hs.pages
  have hm := hs.map
  unfold showF
  refine vw_go rfl ?_; simp only [go_sem,setCells,setIn]
  refine vw_seq ?_
  refine vw_go rfl ?_; simp only [go_sem,setCells,setIn]
  refine ⟨_, _, call_rx [0] Tryz.func25 (rO) rfl rfl rfl rfl rfl rfl rfl (by simp [lendAll,lendC,seek,fresh,nav,rcells,RT.cells,VV.cells,tabE_cons,tabS_cons,ev,take_map_len,sRow_r1,sRow_comp,sRow_clean,nRow_r1,nRow_comp,nRow_clean]) rfl (by simp [rcells,RT.cells,CT.clean,T.clean,sRow_r1,sRow_comp,sRow_clean,nRow_r1,nRow_comp,nRow_clean]) rfl rfl, ?_⟩
  cases hok : ftlOk f
  · simp only [runH,runX,go_sem,setCells,setIn]
    refine vw_cond (t := true) rfl (fun _ => ?_) (fun h => nomatch h)
    refine vw_go rfl ?_; simp only [go_sem,setCells,setIn]
    exact vw_ret (r_then (e_ret (ret_of rfl rfl (by simp [RB]) rfl rfl)))
  simp only [runH,runX,go_sem,setCells,setIn]
  refine vw_cond (t := false) rfl (fun h => nomatch h) (fun _ => ?_)
  refine vw_skip (n_then ?_)
  refine vw_go rfl ?_; simp only [go_sem,setCells,setIn]
  refine vw_seq ?_
  refine vw_go rfl ?_; simp only [go_sem,setCells,setIn]
  refine vw_block ?_
  refine vw_loop_tab (α := Nat) (fun x => f.pages.length - x) (fun x => ⟨tabE [(1, .ptr 4 [] 0 0 0), (3, .c (.str (showTo f x))), (4, .c (.int .i64 x))], tabS [(4, some ⟨true, 4, [[.list false 1 (f.pages.map sRow), .list false 1 (f.wear.map nRow), .list false 1 (f.map.map nRow), .int .i64 f.seq]], []⟩)], 5⟩)
    (fun x => x ≤ f.pages.length) (x := 0) ?round ?h0 ?hn
  case h0 => exact Nat.zero_le _
  case hn =>
    refine norm_to [(4, 4)] rfl ?_ ?_ <;> simp only [go_sem]
    · rfl
  rintro i hi
  refine vw_seq ?_
  by_cases hc : (i : Int) < f.pages.length
  case neg =>
    refine vw_go rfl ?_; simp only [hc,go_sem,setCells,setIn]
    refine vw_cond (t := false) rfl (fun h => nomatch h) (fun _ => ?_)
    refine vw_exit (x_then (x_then (x_block (n_then ?_))))
    obtain rfl : i = f.pages.length := by omega
    refine vw_go rfl ?_; simp only [go_sem,setCells,setIn]
    exact vw_ret (e_ret (ret_of rfl rfl (by simp [RB]) rfl rfl))
  refine vw_go rfl ?_; simp only [hc,go_sem,setCells,setIn]
  refine vw_cond (t := true) rfl (fun _ => ?_) (fun h => nomatch h)
  refine vw_skip (n_then ?_)
  rcases get_or f.pages i with ⟨u, hu, hlt⟩ | ⟨_, hge⟩
  case inr => omega
  have hz := showTo_size f i
  have hz1 := sepS_size i
  have tm : (i:Int).tmod 6 = ((i % 6 : Nat) : Int) := by rw [Int.tmod_eq_emod_of_nonneg (by omega)]; omega
  have c1 : (0:Int) ≤ (i:Int) := by omega
  have w3 : IntKind.wrap .i64 ((i:Int) + 1) = ((i + 1 : Nat) : Int) := by rw [wrap_i64 (by omega) (by omega)]; rfl
  have A1 : (showTo f i).size + 1 < 2 ^ 60 := by omega
  refine vw_seq ?_
  refine vw_block ?_
  refine vw_join (α := Unit) (fun _ => ⟨tabE [(1, .ptr 4 [] 0 0 0), (3, .c (.str (showTo f i ++ sepS i))), (4, .c (.int .i64 i))], tabS [(4, some ⟨true, 4, [[.list false 1 (f.pages.map sRow), .list false 1 (f.wear.map nRow), .list false 1 (f.map.map nRow), .int .i64 f.seq]], []⟩)], 5⟩) (fun _ => True) ?sep ?rest
  case sep =>
    by_cases h0 : (0 : Int) < (i : Int)
    case neg =>
      refine vw_go rfl ?_; simp only [h0,go_sem,setCells,setIn]
      refine vw_cond (t := false) rfl (fun h => nomatch h) (fun _ => ?_)
      refine vw_skip (n_then ⟨(), ?_⟩)
      rw [show sepS i = ⟨#[]⟩ from by unfold sepS; rw [if_neg (by omega)], ba_nil]
      refine norm_to [(4, 4)] rfl ?_ ?_ <;> simp only [go_sem]
    by_cases h6 : ((i % 6 : Nat) : Int) = 0
    case neg =>
      refine vw_go rfl ?_; simp only [h0,tm,h6,go_sem,setCells,setIn]
      refine vw_cond (t := false) rfl (fun h => nomatch h) (fun _ => ?_)
      refine vw_skip (n_then ⟨(), ?_⟩)
      rw [show sepS i = ⟨#[]⟩ from by unfold sepS; rw [if_neg (by omega)], ba_nil]
      refine norm_to [(4, 4)] rfl ?_ ?_ <;> simp only [go_sem]
    refine vw_go rfl ?_; simp only [h0,tm,h6,go_sem,setCells,setIn]
    refine vw_cond (t := true) rfl (fun _ => ?_) (fun h => nomatch h)
    refine vw_last rfl ?_; simp only [ByteArray.size_append,sz_lit,List.size_toArray,List.length_cons,List.length_nil,A1,go_sem,setCells,setIn]
    refine (n_then ⟨(), ?_⟩)
    rw [show sepS i = ⟨#[32]⟩ from by unfold sepS; rw [if_pos (by omega)]]
    refine norm_to [(4, 4)] rfl ?_ ?_ <;> simp only [go_sem]
  rintro _ _
  refine vw_go rfl ?_; simp only [go_sem,setCells,setIn]
  refine vw_join (α := Unit) (fun _ => ⟨tabE [(1, .ptr 4 [] 0 0 0), (3, .c (.str (showTo f i ++ sepS i))), (4, .c (.int .i64 i)), (5, .c (.str (let0 u)))], tabS [(4, some ⟨true, 4, [[.list false 1 (f.pages.map sRow), .list false 1 (f.wear.map nRow), .list false 1 (f.map.map nRow), .int .i64 f.seq]], []⟩)], 5⟩) (fun _ => True) ?dot ?rest2
  case dot =>
    by_cases h : u = ⟨#[]⟩
    · (refine vw_go rfl ?_; simp only [c1,hc,Int.toNat_natCast,getD_map_of hu,sRow,h,go_sem,setCells,setIn])
      refine vw_cond (t := true) rfl (fun _ => ?_) (fun h => nomatch h)
      refine vw_last rfl ?_; simp only [go_sem,setCells,setIn]
      refine (n_then ⟨(), ?_⟩)
      rw [show let0 ⟨#[]⟩ = ⟨#[46]⟩ from by unfold let0; rw [if_pos rfl]]
      refine norm_to [(4, 4)] rfl ?_ ?_ <;> simp only [go_sem]
    · (refine vw_go rfl ?_; simp only [c1,hc,Int.toNat_natCast,getD_map_of hu,sRow,h,go_sem,setCells,setIn])
      refine vw_cond (t := false) rfl (fun h => nomatch h) (fun _ => ?_)
      refine vw_skip (n_then ⟨(), ?_⟩)
      rw [show let0 u = ⟨#[120]⟩ from by unfold let0; rw [if_neg h]]
      refine norm_to [(4, 4)] rfl ?_ ?_ <;> simp only [go_sem]
  rintro _ _
  refine vw_seq ?_
  refine vw_go rfl ?_; simp only [go_sem,setCells,setIn]
  refine vw_block ?_
  refine vw_loop_tab (α := Nat) (fun x => f.map.length - x) (fun x => ⟨tabE [(1, .ptr 4 [] 0 0 0), (3, .c (.str (showTo f i ++ sepS i))), (4, .c (.int .i64 i)), (5, .c (.str (letG (f.map.take x) u i))), (6, .c (.int .i64 x))], tabS [(4, some ⟨true, 4, [[.list false 1 (f.pages.map sRow), .list false 1 (f.wear.map nRow), .list false 1 (f.map.map nRow), .int .i64 f.seq]], []⟩)], 5⟩)
    (fun x => x ≤ f.map.length) (x := 0) ?round2 ?h02 ?hn2
  case h02 => exact Nat.zero_le _
  case hn2 =>
    refine norm_to [(4, 4)] rfl ?_ ?_ <;> simp only [go_sem]
    · rfl
  rintro k hk
  refine vw_seq ?_
  by_cases hd : (k : Int) < f.map.length
  case neg =>
    refine vw_go rfl ?_; simp only [hd,go_sem,setCells,setIn]
    refine vw_cond (t := false) rfl (fun h => nomatch h) (fun _ => ?_)
    refine vw_exit (x_then (x_then (x_block (n_then ?_))))
    obtain rfl : k = f.map.length := by omega
    rw [List.take_length]
    have hz2 := letG_size f.map u i
    have A2 : (showTo f i).size + (sepS i).size + 1 < 2 ^ 60 := by omega
    refine vw_last rfl ?_; simp only [ByteArray.size_append,sz_lit,List.size_toArray,List.length_cons,List.length_nil,hz2,A2,go_sem,setCells,setIn]
    refine (n_block (n_then ?_))
    refine vw_last rfl ?_; simp only [w3,go_sem,setCells,setIn]
    refine (n_then ?_)
    refine ⟨i + 1, by omega, by omega, ?_⟩
    refine norm_to [(4, 4)] rfl ?_ ?_ <;> simp only [go_sem]
    · rw [showTo, getD_of hu]
  refine vw_go rfl ?_; simp only [hd,go_sem,setCells,setIn]
  refine vw_cond (t := true) rfl (fun _ => ?_) (fun h => nomatch h)
  refine vw_skip (n_then ?_)
  rcases get_or f.map k with ⟨m, hm, hlm⟩ | ⟨_, hge⟩
  case inr => omega
  have c3 : (0:Int) ≤ (k:Int) := by omega
  have w4 : IntKind.wrap .i64 ((k:Int) + 1) = ((k + 1 : Nat) : Int) := by rw [wrap_i64 (by omega) (by omega)]; rfl
  have hT := hasP_take (i : Int) hm
  refine vw_seq ?_
  refine vw_block ?_
  by_cases he : m = (i : Int)
  · (refine vw_go rfl ?_; simp only [c3,hd,Int.toNat_natCast,getD_map_of hm,nRow,he,go_sem,setCells,setIn])
    refine vw_cond (t := true) rfl (fun _ => ?_) (fun h => nomatch h)
    refine vw_last rfl ?_; simp only [go_sem,setCells,setIn]
    refine (n_block (n_then ?_))
    refine vw_last rfl ?_; simp only [w4,go_sem,setCells,setIn]
    refine (n_then ?_)
    refine ⟨k + 1, by omega, by omega, ?_⟩
    rw [show letG (f.map.take (k + 1)) u i = ⟨#[111]⟩ from by unfold letG; rw [hT, he]; simp]
    refine norm_to [(4, 4)] rfl ?_ ?_ <;> simp only [go_sem]
  · (refine vw_go rfl ?_; simp only [c3,hd,Int.toNat_natCast,getD_map_of hm,nRow,he,go_sem,setCells,setIn])
    refine vw_cond (t := false) rfl (fun h => nomatch h) (fun _ => ?_)
    refine vw_skip (n_block (n_then ?_))
    refine vw_last rfl ?_; simp only [w4,go_sem,setCells,setIn]
    refine (n_then ?_)
    refine ⟨k + 1, by omega, by omega, ?_⟩
    rw [show letG (f.map.take (k + 1)) u i = letG (f.map.take k) u i from by unfold letG; rw [hT, decide_eq_false (fun h => he h.symm), Bool.or_false]]
    refine norm_to [(4, 4)] rfl ?_ ?_ <;> simp only [go_sem]
def ba (l : List UInt8) : ByteArray := ⟨l.toArray⟩
theorem ba_app (l m : List UInt8) : ba (l ++ m) = ba l ++ ba m := by
  apply ByteArray.ext; simp [ba]
theorem ba_size (l : List UInt8) : (ba l).size = l.length := by simp [ba,ByteArray.size]
theorem runs_9 (f : FtlV) (hs : f.small) : Runs Tryz.prog 9 [.agg [.v (.list false 1 (f.pages.map sRow)), .v (.list false 1 (f.wear.map nRow)), .v (.list false 1 (f.map.map nRow)), .v (.int .i64 f.seq)]] [.one (.v (.str (showF f)))] [] := by
  refine runs_tab (tab := [(0, .agg [.c (.list false 1 (f.pages.map sRow)), .c (.list false 1 (f.wear.map nRow)), .c (.list false 1 (f.map.map nRow)), .c (.int .i64 f.seq)])]) (rts := []) (n := 49) (k := 4) Tryz.func9 rfl rfl (by simp) rfl (fun t => ?_) rfl ?_
  · rcases t with _ | t <;> rfl
  have rO := runs_22 f hs
  have hp := hs.pages
  have hm := hs.map
  unfold showF
  refine vw_go rfl ?_; simp only [go_sem,setCells,setIn]
  refine vw_seq ?_
  refine vw_go rfl ?_; simp only [go_sem,setCells,setIn]
  refine ⟨_, _, call_rx [0] Tryz.func22 (rO) rfl rfl rfl rfl rfl rfl rfl (by simp [lendAll,lendC,seek,fresh,nav,rcells,RT.cells,VV.cells,tabE_cons,tabS_cons,ev,take_map_len,sRow_r1,sRow_comp,sRow_clean,nRow_r1,nRow_comp,nRow_clean]) rfl (by simp [rcells,RT.cells,CT.clean,T.clean,sRow_r1,sRow_comp,sRow_clean,nRow_r1,nRow_comp,nRow_clean]) rfl rfl, ?_⟩
  cases hok : ftlOk f
  · simp only [runH,runX,go_sem,setCells,setIn]
    refine vw_cond (t := true) rfl (fun _ => ?_) (fun h => nomatch h)
    refine vw_go rfl ?_; simp only [go_sem,setCells,setIn]
    exact vw_ret (r_then (e_ret (ret_of rfl rfl (by simp [RB]) rfl rfl)))
  simp only [runH,runX,go_sem,setCells,setIn]
  refine vw_cond (t := false) rfl (fun h => nomatch h) (fun _ => ?_)
  refine vw_skip (n_then ?_)
  have hf := right_of hs hok
  refine vw_go rfl ?_; simp only [range1,List.replicate_succ,List.replicate_zero,List.flatten_cons,List.flatten_nil,List.range_zero,gt_iff_lt,go_sem,setCells,setIn]
  refine vw_seq ?_
  refine vw_go rfl ?_; simp only [go_sem,setCells,setIn]
  refine vw_block ?_
  refine vw_loop_tab (α := Nat × List UInt8) (fun x => f.pages.length - x.1) (fun x => ⟨tabE [(1, .ptr 4 [] 0 0 0), (3, .al 5 [] 0 1 0 x.2.length), (12, .c (.list false 1 (f.pages.map sRow))), (13, .c (.int .i64 f.pages.length)), (14, .c (.int .i64 x.1))], tabS [(4, some ⟨true, 4, [[.list false 1 (f.pages.map sRow), .list false 1 (f.wear.map nRow), .list false 1 (f.map.map nRow), .int .i64 f.seq]], []⟩), (5, some ⟨false, 1, x.2.map bRow, []⟩)], 6⟩)
    (fun x => x.1 ≤ f.pages.length ∧ ba x.2 = showTo f x.1) (x := (0, [])) ?round ?h0 ?hn
  case h0 => exact ⟨Nat.zero_le _, rfl⟩
  case hn =>
    refine norm_to [(4, 4), (131076, 5)] rfl ?_ ?_ <;> simp only [go_sem]
  rintro ⟨i, L⟩ ⟨hi, hL⟩
  simp only at hi hL
  refine vw_go rfl ?_; simp only [go_sem,setCells,setIn]
  refine vw_seq ?_
  by_cases hc : (i : Int) < f.pages.length
  case neg =>
    refine vw_cond (t := false) (by simp [ev,tabE_cons,hc]) (fun h => nomatch h) (fun _ => ?_)
    refine vw_exit (x_then (x_then (x_block (n_then ?_))))
    obtain rfl : i = f.pages.length := by omega
    have qt : (L.map bRow).take L.length = L.map bRow := by rw [List.take_of_length_le (by simp)]
    have qb : (⟨L.toArray⟩ : ByteArray) = showTo f f.pages.length := hL
    refine vw_go rfl ?_; simp only [qt,bytesV_map,qb,go_sem,setCells,setIn]
    exact vw_ret (e_ret (ret_of rfl rfl (by simp [RB]) rfl rfl))
  refine vw_cond (t := true) (by simp [ev,tabE_cons,hc]) (fun _ => ?_) (fun h => nomatch h)
  refine vw_skip (n_then ?_)
  rcases get_or f.pages i with ⟨u, hu, hlt⟩ | ⟨_, hge⟩
  case inr => omega
  have hz := showTo_size f i
  rw [← hL, ba_size] at hz
  have tm : (i:Int).tmod 6 = ((i % 6 : Nat) : Int) := by rw [Int.tmod_eq_emod_of_nonneg (by omega)]; omega
  have c1 : (0:Int) ≤ (i:Int) := by omega
  have w3 : IntKind.wrap .i64 ((i:Int) + 1) = ((i + 1 : Nat) : Int) := by rw [wrap_i64 (by omega) (by omega)]; rfl
  have qL : ∀ L : List UInt8, (L.map bRow).take L.length = L.map bRow := fun L => by rw [List.take_of_length_le (by simp)]
  refine vw_seq ?_
  refine vw_block ?_
  refine vw_go rfl ?_; simp only [c1,hc,Int.toNat_natCast,getD_map_of hu,sRow,go_sem,setCells,setIn]
  refine vw_join (α := List UInt8) (fun M => ⟨tabE [(1, .ptr 4 [] 0 0 0), (3, .al 5 [] 0 1 0 M.length), (4, .c (.int .i64 i)), (5, .c (.str u)), (12, .c (.list false 1 (f.pages.map sRow))), (13, .c (.int .i64 f.pages.length)), (14, .c (.int .i64 i))], tabS [(4, some ⟨true, 4, [[.list false 1 (f.pages.map sRow), .list false 1 (f.wear.map nRow), .list false 1 (f.map.map nRow), .int .i64 f.seq]], []⟩), (5, some ⟨false, 1, M.map bRow, []⟩)], 6⟩) (fun M => ba M = showTo f i ++ sepS i) ?sep ?rest
  case sep =>
    by_cases h0 : (0 : Int) < (i : Int)
    case neg =>
      refine vw_go rfl ?_; simp only [h0,go_sem,setCells,setIn]
      refine vw_cond (t := false) rfl (fun h => nomatch h) (fun _ => ?_)
      refine vw_skip (n_then ⟨L, ?_, ?_⟩)
      · rw [show sepS i = ⟨#[]⟩ from by unfold sepS; rw [if_neg (by omega)], ba_nil, hL]
      refine norm_to [(4, 4), (5, 5)] rfl ?_ ?_ <;> simp only [go_sem]
    by_cases h6 : ((i % 6 : Nat) : Int) = 0
    case neg =>
      refine vw_go rfl ?_; simp only [h0,tm,h6,go_sem,setCells,setIn]
      refine vw_cond (t := false) rfl (fun h => nomatch h) (fun _ => ?_)
      refine vw_skip (n_then ⟨L, ?_, ?_⟩)
      · rw [show sepS i = ⟨#[]⟩ from by unfold sepS; rw [if_neg (by omega)], ba_nil, hL]
      refine norm_to [(4, 4), (5, 5)] rfl ?_ ?_ <;> simp only [go_sem]
    have B1 : ¬ (L.length + 1 + 1) * (1 + 1) > bigRow := by simp only [bigRow]; omega
    refine vw_go rfl ?_; simp only [h0,tm,h6,go_sem,setCells,setIn]
    refine vw_cond (t := true) rfl (fun _ => ?_) (fun h => nomatch h)
    refine vw_last rfl ?_; simp only [B1,range1,List.replicate_succ,List.replicate_zero,List.flatten_cons,List.flatten_nil,List.range_zero,gt_iff_lt,qL,List.length_append,go_sem,setCells,setIn]
    refine (n_then ⟨L ++ [32], ?_, ?_⟩)
    · rw [show sepS i = ba [32] from by unfold sepS; rw [if_pos (by omega)]; rfl, ← hL, ba_app]
    refine norm_to [(4, 4), (198662, 5)] rfl ?_ ?_ <;> simp only [go_sem]
    · simp
    · simp
  rintro M hM
  have hz1 := sepS_size i
  have hz2 : M.length = L.length + (sepS i).size := by rw [← ba_size, hM, ← hL, ByteArray.size_append, ba_size]
  have B1 : ¬ (M.length + 1 + 1) * (1 + 1) > bigRow := by simp only [bigRow]; omega
  have hFin : ∀ b : UInt8, ba [b] = letG f.map u i → ba (M ++ [b]) = showTo f (i + 1) := fun b hb => by
    rw [ba_app, hM, hb, showTo, getD_of hu]
  refine vw_block ?_
  by_cases hU : u = ⟨#[]⟩
  · have hg : ba [46] = letG f.map u i := by
      unfold letG let0
      cases hq : hasP f.map i
      · rw [if_pos hU]; rfl
      · obtain ⟨n, hn⟩ := hasP_mem hq
        rcases hf.at_ n _ hn with h | ⟨j, v, hj, hv, hok', _⟩
        · omega
        · obtain rfl : i = j := by omega
          rw [hu] at hv
          cases hv
          rw [hU, recRead_nil] at hok'
          cases hok'
    refine vw_go rfl ?_; simp only [hU,go_sem,setCells,setIn]
    refine vw_cond (t := true) rfl (fun _ => ?_) (fun h => nomatch h)
    refine vw_last rfl ?_; simp only [B1,range1,List.replicate_succ,List.replicate_zero,List.flatten_cons,List.flatten_nil,List.range_zero,gt_iff_lt,qL,List.length_append,go_sem,setCells,setIn]
    refine (n_block (n_block (n_then ?_)))
    refine vw_last rfl ?_; simp only [w3,go_sem,setCells,setIn]
    refine (n_then ?_)
    refine ⟨(i + 1, M ++ [46]), by simp only; omega, ⟨by simp only; omega, hFin _ hg⟩, ?_⟩
    refine norm_to [(4, 4), (67590, 5)] rfl ?_ ?_ <;> simp only [go_sem]
    · simp
    · simp
  have rC := runs_23 f.map (by omega) i
  change Runs Tryz.prog _ _ [.one (.v (.bool (hasP f.map i)))] _ at rC
  refine vw_go rfl ?_; simp only [hU,go_sem,setCells,setIn]
  refine vw_cond (t := false) rfl (fun h => nomatch h) (fun _ => ?_)
  refine vw_go rfl ?_; simp only [go_sem,setCells,setIn]
  refine ⟨_, _, call_rx [0, 0] Tryz.func23 (rC) rfl rfl rfl rfl rfl rfl rfl (by simp [lendAll,lendC,seek,fresh,nav,rcells,RT.cells,VV.cells,tabE_cons,tabS_cons,ev,take_map_len,sRow_r1,sRow_comp,sRow_clean,nRow_r1,nRow_comp,nRow_clean]) rfl (by simp [rcells,RT.cells,CT.clean,T.clean,sRow_r1,sRow_comp,sRow_clean,nRow_r1,nRow_comp,nRow_clean]) rfl rfl, ?_⟩
  cases hq : hasP f.map i
  · have hg : ba [120] = letG f.map u i := by
      unfold letG let0
      rw [if_neg (by rw [hq]; exact Bool.false_ne_true), if_neg hU]
      rfl
    simp only [runH,runX,go_sem,setCells,setIn]
    refine vw_cond (t := false) rfl (fun h => nomatch h) (fun _ => ?_)
    refine vw_last rfl ?_; simp only [B1,range1,List.replicate_succ,List.replicate_zero,List.flatten_cons,List.flatten_nil,List.range_zero,gt_iff_lt,qL,List.length_append,go_sem,setCells,setIn]
    refine (n_block (n_block (n_then ?_)))
    refine vw_last rfl ?_; simp only [w3,go_sem,setCells,setIn]
    refine (n_then ?_)
    refine ⟨(i + 1, M ++ [120]), by simp only; omega, ⟨by simp only; omega, hFin _ hg⟩, ?_⟩
    refine norm_to [(4, 4), (133126, 5)] rfl ?_ ?_ <;> simp only [go_sem]
    · simp
    · simp
  · have hg : ba [111] = letG f.map u i := by
      unfold letG
      rw [if_pos hq]
      rfl
    simp only [runH,runX,go_sem,setCells,setIn]
    refine vw_cond (t := true) rfl (fun _ => ?_) (fun h => nomatch h)
    refine vw_last rfl ?_; simp only [B1,range1,List.replicate_succ,List.replicate_zero,List.flatten_cons,List.flatten_nil,List.range_zero,gt_iff_lt,qL,List.length_append,go_sem,setCells,setIn]
    refine (n_block (n_block (n_then ?_)))
    refine vw_last rfl ?_; simp only [w3,go_sem,setCells,setIn]
    refine (n_then ?_)
    refine ⟨(i + 1, M ++ [111]), by simp only; omega, ⟨by simp only; omega, hFin _ hg⟩, ?_⟩
    refine norm_to [(4, 4), (133126, 5)] rfl ?_ ?_ <;> simp only [go_sem]
    · simp
    · simp
end Go.Proofs.YtkijdbljnefeaaaGreatDoor
