/- Power of the reference: Burn, Clear, Apply, ApplyAll, Torn, Half, Cut, on a chip that is right. -/
import Derived.Test.YtkijdbljnefeaaaGreatDoorPFWorkU
set_option linter.unusedSimpArgs false
set_option linter.unusedVariables false
namespace Go.Proofs.YtkijdbljnefeaaaGreatDoor
open Go.VM Go
set_option maxRecDepth 100000
attribute [-go_sem] runW_cons
attribute [local congr] vw_congr runV_congr runH_congr runW_congr runX_congr stuckV_congr stuckX_congr
abbrev Chip2 := List ByteArray × List Int
def burnC (p : List ByteArray) (w : List Int) (k : Int) (t : ByteArray) : Chip2 × Bool :=
  if inB k 0 59 = false ∨ p.getD k.toNat ⟨#[]⟩ ≠ ⟨#[]⟩ ∨ t = ⟨#[]⟩ ∨ 800 < (t.size : Int) then ((p, w), false) else ((p.set k.toNat t, w), true)
def clearC (p : List ByteArray) (w : List Int) (k : Int) : Chip2 × Bool :=
  if inB k 0 9 = false ∨ w.getD k.toNat 0 = 1000000000 then ((p, w), false) else ((wipeTo p k.toNat 6, wearUp w k.toNat), true)
def applyC (p : List ByteArray) (w : List Int) (a : ActV) : Chip2 × Bool :=
  if a.kind = 1 then burnC p w a.at_ a.text else if a.kind = 2 then clearC p w a.at_ else ((p, w), false)
def applyGo : List ActV → Chip2 → Chip2 × Bool
  | [], c => (c, true)
  | a :: r, c => if (applyC c.1 c.2 a).2 = true then applyGo r (applyC c.1 c.2 a).1 else (c, false)
def tornC (p : List ByteArray) (w : List Int) (k : Int) (t : ByteArray) (n : Nat) : Chip2 := (burnC p w k (t.extract 0 (min n t.size))).1
def halfC (p : List ByteArray) (w : List Int) (k : Int) (n : Nat) : Chip2 := if (clearC p w k).2 = false then (clearC p w k).1 else (wipeTo p k.toNat (min n 6), wearUp w k.toNat)
def cutC (p : List ByteArray) (w : List Int) (l : List ActV) (k n : Nat) : Chip2 :=
  if (applyGo (l.take k) (p, w)).2 = false ∨ k = l.length then (applyGo (l.take k) (p, w)).1
  else match l[k]? with
    | some a => if a.kind = 1 then tornC (applyGo (l.take k) (p, w)).1.1 (applyGo (l.take k) (p, w)).1.2 a.at_ a.text n else if a.kind = 2 then halfC (applyGo (l.take k) (p, w)).1.1 (applyGo (l.take k) (p, w)).1.2 a.at_ n else (applyGo (l.take k) (p, w)).1
    | none => (applyGo (l.take k) (p, w)).1
/-- A chip that is right. -/
def COk (c : Chip2) : Prop := chipOk c.1 c.2 = true
theorem burnC_ok {p : List ByteArray} {w : List Int} (h : COk (p, w)) (k : Int) (t : ByteArray) : COk (burnC p w k t).1 := by
  obtain ⟨h1, h2, h3, h4⟩ := chipOk_parts h
  unfold burnC
  split
  · exact h
  · rename_i hc
    refine chipOk_of (by rw [List.length_set]; exact h1) (fun s hs => ?_) h3 h4
    rcases List.mem_or_eq_of_mem_set hs with e | e
    · exact h2 s e
    · rw [e]
      have : ¬ 800 < (t.size : Int) := fun e => hc (.inr (.inr (.inr e)))
      omega
theorem wiped_ok {p : List ByteArray} {w : List Int} (h : COk (p, w)) (b n : Nat) (hm : w.getD b 0 ≠ 1000000000) : COk (wipeTo p b n, wearUp w b) := by
  obtain ⟨h1, h2, h3, h4⟩ := chipOk_parts h
  obtain ⟨g1, g2⟩ := wipeTo_shape p b 800 h2 n
  exact chipOk_of (by rw [g1]; exact h1) g2 (by unfold wearUp; rw [List.length_set]; exact h3) (wearUp_ok h4 hm)
theorem clearC_ok {p : List ByteArray} {w : List Int} (h : COk (p, w)) (k : Int) : COk (clearC p w k).1 := by
  unfold clearC
  split
  · exact h
  · rename_i hc
    exact wiped_ok h _ _ (fun e => hc (.inr e))
theorem applyC_ok {p : List ByteArray} {w : List Int} (h : COk (p, w)) (a : ActV) : COk (applyC p w a).1 := by
  unfold applyC
  split
  · exact burnC_ok h _ _
  split
  · exact clearC_ok h _
  · exact h
theorem applyGo_ok : ∀ (l : List ActV) (c : Chip2), COk c → COk (applyGo l c).1
  | [], c, h => h
  | a :: r, c, h => by
    unfold applyGo
    split
    · exact applyGo_ok r _ (applyC_ok h a)
    · exact h
theorem cutC_ok {p : List ByteArray} {w : List Int} (h : COk (p, w)) (l : List ActV) (k n : Nat) : COk (cutC p w l k n) := by
  have hg := applyGo_ok (l.take k) (p, w) h
  unfold cutC
  split
  · exact hg
  split
  · split
    · exact burnC_ok hg _ _
    split
    · unfold halfC
      split
      · exact clearC_ok hg _
      · rename_i h2
        unfold clearC at h2
        split at h2
        · exact absurd rfl h2
        · rename_i hc
          exact wiped_ok hg _ _ (fun e => hc (.inr e))
    · exact hg
  · exact hg
set_option maxHeartbeats 1000000 in
theorem runs_131 (p : List ByteArray) (w : List Int) (h : COk (p, w)) (k : Int) (t : ByteArray) (X : Chip2 × Bool) (hX : X = burnC p w k t) :
    Runs Tryz.prog 131 [.agg [.v (.list false 1 (p.map sRow)), .v (.list false 1 (w.map nRow))], .one (.v (.int .i64 k)), .one (.v (.str t))] [.agg [.v (.list true 1 (X.1.1.map sRow)), .v (.list true 1 (X.1.2.map nRow))], .one (.v (.bool X.2))] [] := by
  refine runs_tab (tab := [(0, .agg [.c (.list false 1 (p.map sRow)), .c (.list false 1 (w.map nRow))]), (1, .c (.int .i64 k)), (2, .c (.str t))]) (rts := []) (n := 46) (k := 4) Tryz.func131 rfl rfl (by simp) rfl (fun t => ?_) rfl ?_
  · rcases t with _ | _ | _ | t <;> rfl
  obtain ⟨pl, ps, wl, wb⟩ := chipOk_parts h
  simp only at pl ps wl wb
  have rO := runs_51 p w (by rw [pl]; decide) (by rw [wl]; decide)
  rw [show chipOk p w = true from h] at rO
  have rC := runs_75 p w (by rw [pl]; decide) (by rw [wl]; decide)
  have rI := runs_26 k 0 59
  have bp : List.take p.length (p.map sRow) = p.map sRow := List.take_of_length_le (by simp)
  have bw : List.take w.length (w.map nRow) = w.map nRow := List.take_of_length_le (by simp)
  have v1 : IntKind.wrap .i64 ((p.length : Int) - 1) = 59 := by rw [wrap_i64 (by omega) (by omega)]; omega
  unfold burnC at hX
  refine vw_go rfl ?_; simp only [go_sem,setCells,setIn]
  refine vw_seq ?_
  refine vw_go rfl ?_; simp only [go_sem,setCells,setIn]
  refine ⟨_, _, call_rx [0] Tryz.func51 (rO) rfl rfl rfl rfl rfl rfl rfl (by simp [lendAll,lendC,seek,fresh,nav,rcells,RT.cells,VV.cells,tabE_cons,tabS_cons,ev,take_map_len,sRow_r1,sRow_comp,sRow_clean,nRow_r1,nRow_comp,nRow_clean,actRow_r1,actRow_clean]) rfl (by simp [rcells,RT.cells,CT.clean,T.clean,sRow_r1,sRow_comp,sRow_clean,nRow_r1,nRow_comp,nRow_clean,actRow_r1,actRow_clean]) rfl rfl, ?_⟩
  simp only [runH,runX,go_sem,setCells,setIn]
  refine vw_cond (t := false) rfl (fun h => nomatch h) (fun _ => ?_)
  refine vw_skip (n_then ?_)
  refine vw_go rfl ?_; simp only [go_sem,setCells,setIn]
  refine ⟨_, _, call_rx [0] Tryz.func75 (rC) rfl rfl rfl rfl rfl rfl rfl (by simp [lendAll,lendC,seek,fresh,nav,rcells,RT.cells,VV.cells,tabE_cons,tabS_cons,ev,take_map_len,sRow_r1,sRow_comp,sRow_clean,nRow_r1,nRow_comp,nRow_clean,actRow_r1,actRow_clean]) rfl (by simp [rcells,RT.cells,CT.clean,T.clean,sRow_r1,sRow_comp,sRow_clean,nRow_r1,nRow_comp,nRow_clean,actRow_r1,actRow_clean]) rfl rfl, ?_⟩
  simp only [runH,runX,bp,bw,List.drop_length,go_sem,setCells,setIn]
  refine vw_seq ?_
  refine vw_go rfl ?_; simp only [v1,go_sem,setCells,setIn]
  refine ⟨_, _, call_rd [0, 0, 0] Tryz.func26 (rI) rfl rfl rfl rfl rfl rfl rfl rfl (by simp [rcells,RT.cells,lit]) rfl rfl rfl rfl, ?_⟩
  cases hin : inB k 0 59
  · rw [if_pos (.inl hin)] at hX
    subst hX
    simp only [runH,runX,hin,go_sem,setCells,setIn]
    refine vw_cond (t := true) rfl (fun _ => ?_) (fun h => nomatch h)
    refine vw_go rfl ?_; simp only [bp,bw,List.drop_length,go_sem,setCells,setIn]
    exact vw_ret (r_then (e_ret (ret_by rfl rfl (by simp [RB]) rfl (by simp only [takeCs,takeC,go_sem,setCells,setIn]))))
  have hk : 0 ≤ k ∧ k ≤ 59 := by unfold inB at hin; simpa using hin
  obtain ⟨K, rfl⟩ : ∃ K : Nat, k = K := ⟨k.toNat, by omega⟩
  rw [Int.toNat_natCast] at hX
  have c0 : (0:Int) ≤ (K : Int) := by omega
  have c1 : (K : Int) < (p.length : Int) := by omega
  have c2 : K < p.length := by omega
  obtain ⟨y, hy⟩ : ∃ y, p[K]? = some y := ⟨_, List.getElem?_eq_getElem c2⟩
  rw [getD_of hy] at hX
  by_cases hy0 : y = ⟨#[]⟩
  case neg =>
    rw [if_pos (.inr (.inl hy0))] at hX
    subst hX
    have q1 : decide (y = ⟨#[]⟩) = false := decide_eq_false hy0
    simp only [runH,runX,hin,c0,c1,c2,Int.toNat_natCast,getD_map_of hy,sRow,q1,go_sem,setCells,setIn]
    refine vw_cond (t := true) rfl (fun _ => ?_) (fun h => nomatch h)
    refine vw_go rfl ?_; simp only [bp,bw,List.drop_length,go_sem,setCells,setIn]
    exact vw_ret (r_then (e_ret (ret_by rfl rfl (by simp [RB]) rfl (by simp only [takeCs,takeC,go_sem,setCells,setIn]))))
  have q1 : decide (y = ⟨#[]⟩) = true := decide_eq_true hy0
  by_cases ht : t = ⟨#[]⟩
  · rw [if_pos (.inr (.inr (.inl ht)))] at hX
    subst hX
    have q2 : decide (t = ⟨#[]⟩) = true := decide_eq_true ht
    simp only [runH,runX,hin,c0,c1,c2,Int.toNat_natCast,getD_map_of hy,sRow,q1,q2,go_sem,setCells,setIn]
    refine vw_cond (t := true) rfl (fun _ => ?_) (fun h => nomatch h)
    refine vw_go rfl ?_; simp only [bp,bw,List.drop_length,go_sem,setCells,setIn]
    exact vw_ret (r_then (e_ret (ret_by rfl rfl (by simp [RB]) rfl (by simp only [takeCs,takeC,go_sem,setCells,setIn]))))
  have q2 : decide (t = ⟨#[]⟩) = false := decide_eq_false ht
  by_cases h8 : 800 < (t.size : Int)
  · rw [if_pos (.inr (.inr (.inr h8)))] at hX
    subst hX
    simp only [runH,runX,hin,c0,c1,c2,Int.toNat_natCast,getD_map_of hy,sRow,q1,q2,h8,go_sem,setCells,setIn]
    refine vw_cond (t := true) rfl (fun _ => ?_) (fun h => nomatch h)
    refine vw_go rfl ?_; simp only [bp,bw,List.drop_length,go_sem,setCells,setIn]
    exact vw_ret (r_then (e_ret (ret_by rfl rfl (by simp [RB]) rfl (by simp only [takeCs,takeC,go_sem,setCells,setIn]))))
  rw [if_neg (by rintro (h | h | h | h); rw [hin] at h; cases h; exact h hy0; exact ht h; exact h8 h)] at hX
  subst hX
  have e1 : (p.map sRow).set K [.str t] = (p.set K t).map sRow := by rw [List.map_set]; rfl
  have bs : List.take p.length ((p.set K t).map sRow) = (p.set K t).map sRow := List.take_of_length_le (by simp)
  have bs2 : List.take (p.set K t).length ((p.set K t).map sRow) = (p.set K t).map sRow := List.take_of_length_le (by simp)
  simp only [runH,runX,hin,c0,c1,c2,Int.toNat_natCast,getD_map_of hy,sRow,q1,q2,h8,go_sem,setCells,setIn]
  refine vw_cond (t := false) rfl (fun h => nomatch h) (fun _ => ?_)
  refine vw_skip (n_then ?_)
  refine vw_go rfl ?_; simp only [bp,bw,c0,c1,c2,Int.toNat_natCast,getD_map_of hy,sRow,e1,List.drop_length,go_sem,setCells,setIn]
  refine vw_go rfl ?_; simp only [bs,bs2,bw,List.drop_length,go_sem,setCells,setIn]
  exact vw_ret (e_ret (ret_by rfl rfl (by simp [RB]) rfl (by simp only [takeCs,takeC,go_sem,setCells,setIn])))
set_option maxHeartbeats 1000000 in
theorem runs_132 (p : List ByteArray) (w : List Int) (h : COk (p, w)) (k : Int) (X : Chip2 × Bool) (hX : X = clearC p w k) :
    Runs Tryz.prog 132 [.agg [.v (.list false 1 (p.map sRow)), .v (.list false 1 (w.map nRow))], .one (.v (.int .i64 k))] [.agg [.v (.list true 1 (X.1.1.map sRow)), .v (.list true 1 (X.1.2.map nRow))], .one (.v (.bool X.2))] [] := by
  refine runs_tab (tab := [(0, .agg [.c (.list false 1 (p.map sRow)), .c (.list false 1 (w.map nRow))]), (1, .c (.int .i64 k))]) (rts := []) (n := 27) (k := 3) Tryz.func132 rfl rfl (by simp) rfl (fun t => ?_) rfl ?_
  · rcases t with _ | _ | t <;> rfl
  obtain ⟨pl, ps, wl, wb⟩ := chipOk_parts h
  simp only at pl ps wl wb
  have rO := runs_51 p w (by rw [pl]; decide) (by rw [wl]; decide)
  rw [show chipOk p w = true from h] at rO
  have rC := runs_75 p w (by rw [pl]; decide) (by rw [wl]; decide)
  have rI := runs_26 k 0 9
  have bp : List.take p.length (p.map sRow) = p.map sRow := List.take_of_length_le (by simp)
  have bw : List.take w.length (w.map nRow) = w.map nRow := List.take_of_length_le (by simp)
  unfold clearC at hX
  refine vw_go rfl ?_; simp only [go_sem,setCells,setIn]
  refine vw_seq ?_
  refine vw_go rfl ?_; simp only [go_sem,setCells,setIn]
  refine ⟨_, _, call_rx [0] Tryz.func51 (rO) rfl rfl rfl rfl rfl rfl rfl (by simp [lendAll,lendC,seek,fresh,nav,rcells,RT.cells,VV.cells,tabE_cons,tabS_cons,ev,take_map_len,sRow_r1,sRow_comp,sRow_clean,nRow_r1,nRow_comp,nRow_clean,actRow_r1,actRow_clean]) rfl (by simp [rcells,RT.cells,CT.clean,T.clean,sRow_r1,sRow_comp,sRow_clean,nRow_r1,nRow_comp,nRow_clean,actRow_r1,actRow_clean]) rfl rfl, ?_⟩
  simp only [runH,runX,go_sem,setCells,setIn]
  refine vw_cond (t := false) rfl (fun h => nomatch h) (fun _ => ?_)
  refine vw_skip (n_then ?_)
  refine vw_seq ?_
  refine vw_go rfl ?_; simp only [go_sem,setCells,setIn]
  refine ⟨_, _, call_rd [0, 0, 0] Tryz.func26 (rI) rfl rfl rfl rfl rfl rfl rfl rfl (by simp [rcells,RT.cells,lit]) rfl rfl rfl rfl, ?_⟩
  cases hin : inB k 0 9
  · rw [if_pos (.inl hin)] at hX
    subst hX
    simp only [runH,runX,hin,go_sem,setCells,setIn]
    refine vw_cond (t := true) rfl (fun _ => ?_) (fun h => nomatch h)
    refine vw_go rfl ?_; simp only [go_sem,setCells,setIn]
    refine ⟨_, _, call_rx [0] Tryz.func75 (rC) rfl rfl rfl rfl rfl rfl rfl (by simp [lendAll,lendC,seek,fresh,nav,rcells,RT.cells,VV.cells,tabE_cons,tabS_cons,ev,take_map_len,sRow_r1,sRow_comp,sRow_clean,nRow_r1,nRow_comp,nRow_clean,actRow_r1,actRow_clean]) rfl (by simp [rcells,RT.cells,CT.clean,T.clean,sRow_r1,sRow_comp,sRow_clean,nRow_r1,nRow_comp,nRow_clean,actRow_r1,actRow_clean]) rfl rfl, ?_⟩
    simp only [runH,runX,bp,bw,List.drop_length,go_sem,setCells,setIn]
    exact vw_ret (r_then (e_ret (ret_by rfl rfl (by simp [RB]) rfl (by simp only [takeCs,takeC,go_sem,setCells,setIn]))))
  have hk : 0 ≤ k ∧ k ≤ 9 := by unfold inB at hin; simpa using hin
  obtain ⟨K, rfl⟩ : ∃ K : Nat, k = K := ⟨k.toNat, by omega⟩
  rw [Int.toNat_natCast] at hX
  have c0 : (0:Int) ≤ (K : Int) := by omega
  have c1 : (K : Int) < (w.length : Int) := by omega
  have c2 : K < w.length := by omega
  obtain ⟨y, hy⟩ : ∃ y, w[K]? = some y := ⟨_, List.getElem?_eq_getElem c2⟩
  rw [getD_of hy] at hX
  by_cases hm : y = 1000000000
  · rw [if_pos (.inr hm)] at hX
    subst hX
    simp only [runH,runX,hin,c0,c1,c2,Int.toNat_natCast,getD_map_of hy,nRow,hm,go_sem,setCells,setIn]
    refine vw_cond (t := true) rfl (fun _ => ?_) (fun h => nomatch h)
    refine vw_go rfl ?_; simp only [go_sem,setCells,setIn]
    refine ⟨_, _, call_rx [0] Tryz.func75 (rC) rfl rfl rfl rfl rfl rfl rfl (by simp [lendAll,lendC,seek,fresh,nav,rcells,RT.cells,VV.cells,tabE_cons,tabS_cons,ev,take_map_len,sRow_r1,sRow_comp,sRow_clean,nRow_r1,nRow_comp,nRow_clean,actRow_r1,actRow_clean]) rfl (by simp [rcells,RT.cells,CT.clean,T.clean,sRow_r1,sRow_comp,sRow_clean,nRow_r1,nRow_comp,nRow_clean,actRow_r1,actRow_clean]) rfl rfl, ?_⟩
    simp only [runH,runX,bp,bw,List.drop_length,go_sem,setCells,setIn]
    exact vw_ret (r_then (e_ret (ret_by rfl rfl (by simp [RB]) rfl (by simp only [takeCs,takeC,go_sem,setCells,setIn]))))
  rw [if_neg (by rintro (h | h); rw [hin] at h; cases h; exact hm h)] at hX
  have rW := runs_133 p w pl wl wb K 6 (by omega) (by decide) _ _ rfl rfl
  change Runs _ _ _ [.agg [.v (.list true 1 ((wipeTo p K 6).map sRow)), _]] _ at rW
  subst hX
  generalize wipeTo p K 6 = P2 at rW ⊢
  generalize wearUp w K = W2 at rW ⊢
  have bP : List.take P2.length (P2.map sRow) = P2.map sRow := List.take_of_length_le (by simp)
  have bW : List.take W2.length (W2.map nRow) = W2.map nRow := List.take_of_length_le (by simp)
  simp only [runH,runX,hin,c0,c1,c2,Int.toNat_natCast,getD_map_of hy,nRow,hm,go_sem,setCells,setIn]
  refine vw_cond (t := false) rfl (fun h => nomatch h) (fun _ => ?_)
  refine vw_skip (n_then ?_)
  refine vw_go rfl ?_; simp only [go_sem,setCells,setIn]
  refine ⟨_, _, call_rx [0] Tryz.func75 (rC) rfl rfl rfl rfl rfl rfl rfl (by simp [lendAll,lendC,seek,fresh,nav,rcells,RT.cells,VV.cells,tabE_cons,tabS_cons,ev,take_map_len,sRow_r1,sRow_comp,sRow_clean,nRow_r1,nRow_comp,nRow_clean,actRow_r1,actRow_clean]) rfl (by simp [rcells,RT.cells,CT.clean,T.clean,sRow_r1,sRow_comp,sRow_clean,nRow_r1,nRow_comp,nRow_clean,actRow_r1,actRow_clean]) rfl rfl, ?_⟩
  simp only [runH,runX,bp,bw,List.drop_length,go_sem,setCells,setIn]
  refine ⟨_, _, call_own [0, 0, 0] [(197635, none), (197636, none)] Tryz.func133 (rW) rfl rfl rfl rfl rfl rfl rfl (by simp [takeCs,takeC,takeV,seek,fresh,nav,takenUp,rcells,RT.cells,VV.cells,tabE_cons,tabS_cons,ups_tab,ups_nil,ev,take_map_len,sRow_r1,sRow_comp,sRow_clean,nRow_r1,nRow_comp,nRow_clean,actRow_r1,actRow_clean,lit,bp,bw,St.put,List.drop_length]) rfl (by simp [rcells,RT.cells,CT.clean,T.clean,sRow_r1,sRow_comp,sRow_clean,nRow_r1,nRow_comp,nRow_clean,actRow_r1,actRow_clean,lit,bp,bw,St.put,List.drop_length]) rfl rfl, ?_⟩
  simp only [runH,runX,bP,bW,List.drop_length,go_sem,setCells,setIn]
  exact vw_ret (e_ret (ret_by rfl rfl (by simp [RB]) rfl (by simp only [takeCs,takeC,go_sem,setCells,setIn])))
set_option maxHeartbeats 1000000 in
theorem runs_130 (p : List ByteArray) (w : List Int) (h : COk (p, w)) (a : ActV) (X : Chip2 × Bool) (hX : X = applyC p w a) :
    Runs Tryz.prog 130 [.agg [.v (.list false 1 (p.map sRow)), .v (.list false 1 (w.map nRow))], .agg [.v (.int .i64 a.kind), .v (.int .i64 a.at_), .v (.str a.text)]] [.agg [.v (.list true 1 (X.1.1.map sRow)), .v (.list true 1 (X.1.2.map nRow))], .one (.v (.bool X.2))] [] := by
  refine runs_tab (tab := [(0, .agg [.c (.list false 1 (p.map sRow)), .c (.list false 1 (w.map nRow))]), (1, .agg [.c (.int .i64 a.kind), .c (.int .i64 a.at_), .c (.str a.text)])]) (rts := []) (n := 45) (k := 5) Tryz.func130 rfl rfl (by simp) rfl (fun t => ?_) rfl ?_
  · rcases t with _ | _ | t <;> rfl
  obtain ⟨pl, ps, wl, wb⟩ := chipOk_parts h
  simp only at pl ps wl wb
  have rO := runs_51 p w (by rw [pl]; decide) (by rw [wl]; decide)
  rw [show chipOk p w = true from h] at rO
  have rC := runs_75 p w (by rw [pl]; decide) (by rw [wl]; decide)
  have rB := runs_131 p w h a.at_ a.text _ rfl
  have rL := runs_132 p w h a.at_ _ rfl
  unfold applyC at hX
  generalize burnC p w a.at_ a.text = B at rB hX
  generalize clearC p w a.at_ = L at rL hX
  have bp : List.take p.length (p.map sRow) = p.map sRow := List.take_of_length_le (by simp)
  have bw : List.take w.length (w.map nRow) = w.map nRow := List.take_of_length_le (by simp)
  have xp : List.take X.1.1.length (X.1.1.map sRow) = X.1.1.map sRow := List.take_of_length_le (by simp)
  have xw : List.take X.1.2.length (X.1.2.map nRow) = X.1.2.map nRow := List.take_of_length_le (by simp)
  refine vw_go rfl ?_; simp only [go_sem,setCells,setIn]
  refine vw_seq ?_
  refine vw_block ?_
  refine vw_go rfl ?_; simp only [go_sem,setCells,setIn]
  refine ⟨_, _, call_rx [0] Tryz.func51 (rO) rfl rfl rfl rfl rfl rfl rfl (by simp [lendAll,lendC,seek,fresh,nav,rcells,RT.cells,VV.cells,tabE_cons,tabS_cons,ev,take_map_len,sRow_r1,sRow_comp,sRow_clean,nRow_r1,nRow_comp,nRow_clean,actRow_r1,actRow_clean]) rfl (by simp [rcells,RT.cells,CT.clean,T.clean,sRow_r1,sRow_comp,sRow_clean,nRow_r1,nRow_comp,nRow_clean,actRow_r1,actRow_clean]) rfl rfl, ?_⟩
  simp only [runH,runX,go_sem,setCells,setIn]
  refine vw_cond (t := false) rfl (fun h => nomatch h) (fun _ => ?_)
  by_cases h1 : a.kind = 1
  · rw [if_pos h1] at hX
    subst hX
    refine vw_go rfl ?_; simp only [h1,go_sem,setCells,setIn]
    refine vw_cond (t := true) rfl (fun _ => ?_) (fun h => nomatch h)
    refine vw_go rfl ?_; simp only [go_sem,setCells,setIn]
    refine ⟨_, _, call_rx [0, 0, 0] Tryz.func131 (rB) rfl rfl rfl rfl rfl rfl rfl (by simp [lendAll,lendC,seek,fresh,nav,rcells,RT.cells,VV.cells,tabE_cons,tabS_cons,ev,take_map_len,sRow_r1,sRow_comp,sRow_clean,nRow_r1,nRow_comp,nRow_clean,actRow_r1,actRow_clean]) rfl (by simp [rcells,RT.cells,CT.clean,T.clean,sRow_r1,sRow_comp,sRow_clean,nRow_r1,nRow_comp,nRow_clean,actRow_r1,actRow_clean]) rfl rfl, ?_⟩
    simp only [runH,runX,xp,xw,List.drop_length,go_sem,setCells,setIn]
    refine vw_go rfl ?_; simp only [xp,xw,List.drop_length,go_sem,setCells,setIn]
    refine vw_ret ?_
    repeat (first | refine r_then ?_ | refine r_block ?_)
    exact e_ret (ret_by rfl rfl (by simp [RB]) rfl (by simp only [takeCs,takeC,go_sem,setCells,setIn]))
  rw [if_neg h1] at hX
  refine vw_go rfl ?_; simp only [h1,go_sem,setCells,setIn]
  refine vw_cond (t := false) rfl (fun h => nomatch h) (fun _ => ?_)
  by_cases h2 : a.kind = 2
  · rw [if_pos h2] at hX
    subst hX
    refine vw_go rfl ?_; simp only [h2,go_sem,setCells,setIn]
    refine vw_cond (t := true) rfl (fun _ => ?_) (fun h => nomatch h)
    refine vw_go rfl ?_; simp only [go_sem,setCells,setIn]
    refine ⟨_, _, call_rx [0, 0] Tryz.func132 (rL) rfl rfl rfl rfl rfl rfl rfl (by simp [lendAll,lendC,seek,fresh,nav,rcells,RT.cells,VV.cells,tabE_cons,tabS_cons,ev,take_map_len,sRow_r1,sRow_comp,sRow_clean,nRow_r1,nRow_comp,nRow_clean,actRow_r1,actRow_clean]) rfl (by simp [rcells,RT.cells,CT.clean,T.clean,sRow_r1,sRow_comp,sRow_clean,nRow_r1,nRow_comp,nRow_clean,actRow_r1,actRow_clean]) rfl rfl, ?_⟩
    simp only [runH,runX,xp,xw,List.drop_length,go_sem,setCells,setIn]
    refine vw_go rfl ?_; simp only [xp,xw,List.drop_length,go_sem,setCells,setIn]
    refine vw_ret ?_
    repeat (first | refine r_then ?_ | refine r_block ?_)
    exact e_ret (ret_by rfl rfl (by simp [RB]) rfl (by simp only [takeCs,takeC,go_sem,setCells,setIn]))
  rw [if_neg h2] at hX
  subst hX
  refine vw_go rfl ?_; simp only [h2,go_sem,setCells,setIn]
  refine vw_cond (t := false) rfl (fun h => nomatch h) (fun _ => ?_)
  refine vw_skip (n_block (n_then ?_))
  refine vw_go rfl ?_; simp only [go_sem,setCells,setIn]
  refine ⟨_, _, call_rx [0] Tryz.func75 (rC) rfl rfl rfl rfl rfl rfl rfl (by simp [lendAll,lendC,seek,fresh,nav,rcells,RT.cells,VV.cells,tabE_cons,tabS_cons,ev,take_map_len,sRow_r1,sRow_comp,sRow_clean,nRow_r1,nRow_comp,nRow_clean,actRow_r1,actRow_clean]) rfl (by simp [rcells,RT.cells,CT.clean,T.clean,sRow_r1,sRow_comp,sRow_clean,nRow_r1,nRow_comp,nRow_clean,actRow_r1,actRow_clean]) rfl rfl, ?_⟩
  simp only [runH,runX,bp,bw,List.drop_length,go_sem,setCells,setIn]
  exact vw_ret (e_ret (ret_by rfl rfl (by simp [RB]) rfl (by simp only [takeCs,takeC,go_sem,setCells,setIn])))
set_option maxHeartbeats 1000000 in
theorem runs_94 (p : List ByteArray) (w : List Int) (h : COk (p, w)) (l : List ActV) (hl : l.length ≤ 1000) (X : Chip2 × Bool) (hX : X = applyGo l (p, w)) :
    Runs Tryz.prog 94 [.agg [.v (.list false 1 (p.map sRow)), .v (.list false 1 (w.map nRow))], .one (.v (.list false 3 (l.map actRow)))] [.agg [.v (.list true 1 (X.1.1.map sRow)), .v (.list true 1 (X.1.2.map nRow))], .one (.v (.bool X.2))] [] := by
  refine runs_tab (tab := [(0, .agg [.c (.list false 1 (p.map sRow)), .c (.list false 1 (w.map nRow))]), (1, .c (.list false 3 (l.map actRow)))]) (rts := []) (n := 36) (k := 3) Tryz.func94 rfl rfl (by simp) rfl (fun t => ?_) rfl ?_
  · rcases t with _ | _ | t <;> rfl
  obtain ⟨pl, ps, wl, wb⟩ := chipOk_parts h
  simp only at pl ps wl wb
  have rO := runs_51 p w (by rw [pl]; decide) (by rw [wl]; decide)
  rw [show chipOk p w = true from h] at rO
  have rC := runs_75 p w (by rw [pl]; decide) (by rw [wl]; decide)
  have bp : List.take p.length (p.map sRow) = p.map sRow := List.take_of_length_le (by simp)
  have bw : List.take w.length (w.map nRow) = w.map nRow := List.take_of_length_le (by simp)
  refine vw_go rfl ?_; simp only [go_sem,setCells,setIn]
  refine vw_seq ?_
  refine vw_go rfl ?_; simp only [go_sem,setCells,setIn]
  refine ⟨_, _, call_rx [0] Tryz.func51 (rO) rfl rfl rfl rfl rfl rfl rfl (by simp [lendAll,lendC,seek,fresh,nav,rcells,RT.cells,VV.cells,tabE_cons,tabS_cons,ev,take_map_len,sRow_r1,sRow_comp,sRow_clean,nRow_r1,nRow_comp,nRow_clean,actRow_r1,actRow_clean]) rfl (by simp [rcells,RT.cells,CT.clean,T.clean,sRow_r1,sRow_comp,sRow_clean,nRow_r1,nRow_comp,nRow_clean,actRow_r1,actRow_clean]) rfl rfl, ?_⟩
  simp only [runH,runX,go_sem,setCells,setIn]
  refine vw_cond (t := false) rfl (fun h => nomatch h) (fun _ => ?_)
  refine vw_skip (n_then ?_)
  refine vw_go rfl ?_; simp only [go_sem,setCells,setIn]
  refine ⟨_, _, call_rx [0] Tryz.func75 (rC) rfl rfl rfl rfl rfl rfl rfl (by simp [lendAll,lendC,seek,fresh,nav,rcells,RT.cells,VV.cells,tabE_cons,tabS_cons,ev,take_map_len,sRow_r1,sRow_comp,sRow_clean,nRow_r1,nRow_comp,nRow_clean,actRow_r1,actRow_clean]) rfl (by simp [rcells,RT.cells,CT.clean,T.clean,sRow_r1,sRow_comp,sRow_clean,nRow_r1,nRow_comp,nRow_clean,actRow_r1,actRow_clean]) rfl rfl, ?_⟩
  simp only [runH,runX,bp,bw,List.drop_length,go_sem,setCells,setIn]
  refine vw_seq ?_
  refine vw_go rfl ?_; simp only [go_sem,setCells,setIn]
  refine vw_block ?_
  refine vw_loop_tab (α := Nat × Chip2 × List Path) (fun x => l.length - x.1) (fun x => ⟨tabE [(1, .c (.list false 3 (l.map actRow))), (4, .ptr 4 [] 0 0 0), (6, .ptr 5 [] 0 0 0), (7, .c (.int .i64 x.1))],
      tabS [(4, some ⟨true, 2, [[.list true 1 [], .list true 1 []]], []⟩), (5, some ⟨true, 2, [[.list true 1 (x.2.1.1.map sRow), .list true 1 (x.2.1.2.map nRow)]], x.2.2⟩)], 6⟩)
    (fun x => x.1 ≤ l.length ∧ applyGo (l.drop x.1) x.2.1 = X ∧ COk x.2.1) (x := (0, (p, w), [[(0, 0)], [(0, 1)]])) ?round ?h0 ?hn
  case h0 => exact ⟨Nat.zero_le _, hX.symm, h⟩
  case hn =>
    refine norm_to [(1027, 4), (133123, 5)] rfl ?_ ?_ <;> simp only [go_sem]
  rintro ⟨i, c, lg⟩ ⟨hi, hg, hc⟩
  simp only at hi hg hc
  have xp : List.take X.1.1.length (X.1.1.map sRow) = X.1.1.map sRow := List.take_of_length_le (by simp)
  have xw : List.take X.1.2.length (X.1.2.map nRow) = X.1.2.map nRow := List.take_of_length_le (by simp)
  have cp : List.take c.1.length (c.1.map sRow) = c.1.map sRow := List.take_of_length_le (by simp)
  have cw : List.take c.2.length (c.2.map nRow) = c.2.map nRow := List.take_of_length_le (by simp)
  refine vw_seq ?_
  by_cases hd : (i : Int) < l.length
  case neg =>
    rw [List.drop_eq_nil_of_le (by omega), applyGo] at hg
    subst hg
    refine vw_go rfl ?_; simp only [hd,go_sem,setCells,setIn]
    refine vw_cond (t := false) rfl (fun h => nomatch h) (fun _ => ?_)
    refine vw_exit (x_then (x_then (x_block (n_then ?_))))
    refine vw_go rfl ?_; simp only [cp,cw,List.drop_length,go_sem,setCells,setIn]
    exact vw_ret (e_ret (ret_by rfl rfl (by simp [RB]) rfl (by simp only [takeCs,takeC,go_sem,setCells,setIn])))
  obtain ⟨a, ha⟩ : ∃ a, l[i]? = some a := ⟨_, List.getElem?_eq_getElem (by omega)⟩
  rw [drop_of ha, applyGo] at hg
  have rA := runs_130 c.1 c.2 hc a _ rfl
  have hA := applyC_ok hc a
  generalize applyC c.1 c.2 a = Y at rA hA hg
  have yp : List.take Y.1.1.length (Y.1.1.map sRow) = Y.1.1.map sRow := List.take_of_length_le (by simp)
  have yw : List.take Y.1.2.length (Y.1.2.map nRow) = Y.1.2.map nRow := List.take_of_length_le (by simp)
  have d0 : (0:Int) ≤ (i : Int) := by omega
  have d1 : i < l.length := by omega
  have w1 : IntKind.wrap .i64 ((i:Int) + 1) = ((i + 1 : Nat) : Int) := by rw [wrap_i64 (by omega) (by omega)]; rfl
  refine vw_go rfl ?_; simp only [hd,go_sem,setCells,setIn]
  refine vw_cond (t := true) rfl (fun _ => ?_) (fun h => nomatch h)
  refine vw_skip (n_then ?_)
  refine vw_seq ?_
  refine vw_block ?_
  refine vw_drawA mixed rfl rfl ?_; intro A hAA
  simp (maxSteps := 1000000) only [cp, cw, d0, hd, d1, Int.toNat_natCast, getD_map_of ha, actRow, List.length_map, List.drop_length, go_sem, setCells, setIn, runW_step]
  refine ⟨_, _, _, call_rx_at [0, 0] [5] Tryz.func130 (rA) rfl rfl rfl rfl rfl rfl rfl (fun st1 hst1 => by (try simp only [List.mem_cons,List.not_mem_nil,or_false,false_or,forall_eq_or_imp,forall_eq] at hst1); simp [lendAll,lendC,seek,fresh,nav,rcells,RT.cells,VV.cells,tabE_cons,tabS_cons,ev,take_map_len,hst1,sRow_r1,sRow_comp,sRow_clean,nRow_r1,nRow_comp,nRow_clean,actRow_r1,actRow_clean,cp,cw,List.drop_length]) rfl (by simp [rcells,RT.cells,CT.clean,T.clean,sRow_r1,sRow_comp,sRow_clean,nRow_r1,nRow_comp,nRow_clean,actRow_r1,actRow_clean,cp,cw,List.drop_length]) rfl rfl, ?_⟩
  (unfold runX; simp (maxSteps := 1000000) only [yp, yw, List.drop_length, go_sem, setCells, setIn, runW_step])
  refine ⟨by subst hAA; unfold allOk; kernel_rfl, ?_⟩
  refine vw_seq ?_
  cases hy : Y.2
  · rw [if_neg (by rw [hy]; simp)] at hg
    subst hg
    refine vw_go rfl ?_; simp only [hy,go_sem,setCells,setIn]
    refine vw_cond (t := true) rfl (fun _ => ?_) (fun h => nomatch h)
    refine vw_go rfl ?_; simp only [cp,cw,List.drop_length,go_sem,setCells,setIn]
    refine vw_ret ?_
    repeat (first | refine r_then ?_ | refine r_block ?_)
    exact e_ret (ret_by rfl rfl (by simp [RB]) rfl (by simp only [takeCs,takeC,go_sem,setCells,setIn]))
  rw [if_pos hy] at hg
  refine vw_go rfl ?_; simp only [hy,go_sem,setCells,setIn]
  refine vw_cond (t := false) rfl (fun h => nomatch h) (fun _ => ?_)
  refine vw_skip (n_then ?_)
  refine vw_last rfl ?_; simp only [yp,yw,List.drop_length,go_sem,setCells,setIn]
  refine (n_block (n_then ?_))
  refine vw_last rfl ?_; simp only [w1,go_sem,setCells,setIn]
  refine (n_then ?_)
  refine ⟨(i + 1, Y.1, lg ++ [[(0, 0)], [(0, 1)]]), by simp only; omega, ⟨by simp only; omega, hg, hA⟩, ?_⟩
  refine norm_to [(4, 4), (5, 5)] rfl ?_ ?_ <;> simp only [go_sem]
set_option maxHeartbeats 1000000 in
theorem runs_95 (p : List ByteArray) (w : List Int) (h : COk (p, w)) (k : Int) (t : ByteArray) (ht : t.size ≤ 2 ^ 40) (n : Nat) (hn : n ≤ 1000) (X : Chip2) (hX : X = tornC p w k t n) :
    Runs Tryz.prog 95 [.agg [.v (.list false 1 (p.map sRow)), .v (.list false 1 (w.map nRow))], .one (.v (.int .i64 k)), .one (.v (.str t)), .one (.v (.int .i64 n))] [.agg [.v (.list true 1 (X.1.map sRow)), .v (.list true 1 (X.2.map nRow))]] [] := by
  refine runs_tab (tab := [(0, .agg [.c (.list false 1 (p.map sRow)), .c (.list false 1 (w.map nRow))]), (1, .c (.int .i64 k)), (2, .c (.str t)), (3, .c (.int .i64 n))]) (rts := []) (n := 25) (k := 5) Tryz.func95 rfl rfl (by simp) rfl (fun t => ?_) rfl ?_
  · rcases t with _ | _ | _ | _ | t <;> rfl
  unfold tornC at hX
  have rB := runs_131 p w h k (t.extract 0 (min n t.size)) _ rfl
  generalize burnC p w k (t.extract 0 (min n t.size)) = B at rB hX
  subst hX
  have xp : List.take B.1.1.length (B.1.1.map sRow) = B.1.1.map sRow := List.take_of_length_le (by simp)
  have xw : List.take B.1.2.length (B.1.2.map nRow) = B.1.2.map nRow := List.take_of_length_le (by simp)
  have rN := runs_77 (n : Int) (t.size : Int)
  have e1 : (if (n : Int) < (t.size : Int) then (n : Int) else (t.size : Int)) = ((min n t.size : Nat) : Int) := by split <;> omega
  rw [e1] at rN
  have rM := runs_78 ((min n t.size : Nat) : Int) 0
  have e2 : (if (0 : Int) < ((min n t.size : Nat) : Int) then ((min n t.size : Nat) : Int) else 0) = ((min n t.size : Nat) : Int) := by split <;> omega
  rw [e2] at rM
  have hm : min n t.size ≤ t.size := Nat.min_le_right _ _
  generalize min n t.size = m at rN rM rB hm
  have c0 : (0:Int) ≤ (m : Int) := by omega
  have c1 : (m : Int) ≤ (t.size : Int) := by omega
  refine vw_go rfl ?_; simp only [go_sem,setCells,setIn]
  refine vw_drawA mixed rfl rfl ?_; intro A hAA
  simp (maxSteps := 1000000) only [go_sem, setCells, setIn, runW_step]
  refine ⟨_, _, _, call_rd_at [0, 0] [] Tryz.func77 (rN) (fun _ _ => rfl) rfl rfl rfl rfl rfl rfl rfl rfl rfl rfl rfl rfl, ?_⟩
  (unfold runX; simp (maxSteps := 1000000) only [go_sem, setCells, setIn, runW_step])
  refine ⟨_, _, _, call_rd_at [0, 0] [] Tryz.func78 (rM) (fun _ _ => rfl) rfl rfl rfl rfl rfl rfl rfl rfl rfl rfl rfl rfl, ?_⟩
  (unfold runX; simp (maxSteps := 1000000) only [c0, c1, Int.toNat_natCast, hm, xp, xw, List.drop_length, go_sem, setCells, setIn, runW_step])
  refine ⟨_, _, _, call_rx_at [0, 0, 0] [] Tryz.func131 (rB) rfl rfl rfl rfl rfl rfl rfl (fun st1 hst1 => by (try simp only [List.mem_cons,List.not_mem_nil,or_false,false_or,forall_eq_or_imp,forall_eq] at hst1); simp [lendAll,lendC,seek,fresh,nav,rcells,RT.cells,VV.cells,tabE_cons,tabS_cons,ev,take_map_len,hst1,sRow_r1,sRow_comp,sRow_clean,nRow_r1,nRow_comp,nRow_clean,actRow_r1,actRow_clean]) rfl (by simp [rcells,RT.cells,CT.clean,T.clean,sRow_r1,sRow_comp,sRow_clean,nRow_r1,nRow_comp,nRow_clean,actRow_r1,actRow_clean]) rfl rfl, ?_⟩
  (unfold runX; simp (maxSteps := 1000000) only [xp, xw, List.drop_length, go_sem, setCells, setIn, runW_step])
  refine ⟨by subst hAA; unfold allOk; kernel_rfl, ?_⟩
  refine vw_go rfl ?_; simp only [xp,xw,List.drop_length,go_sem,setCells,setIn]
  exact vw_ret (e_ret (ret_by rfl rfl (by simp [RB]) rfl (by simp only [takeCs,takeC,go_sem,setCells,setIn])))
set_option maxHeartbeats 1000000 in
theorem runs_96 (p : List ByteArray) (w : List Int) (h : COk (p, w)) (k : Int) (n : Nat) (hn : n ≤ 1000) (X : Chip2) (hX : X = halfC p w k n) :
    Runs Tryz.prog 96 [.agg [.v (.list false 1 (p.map sRow)), .v (.list false 1 (w.map nRow))], .one (.v (.int .i64 k)), .one (.v (.int .i64 n))] [.agg [.v (.list true 1 (X.1.map sRow)), .v (.list true 1 (X.2.map nRow))]] [] := by
  refine runs_tab (tab := [(0, .agg [.c (.list false 1 (p.map sRow)), .c (.list false 1 (w.map nRow))]), (1, .c (.int .i64 k)), (2, .c (.int .i64 n))]) (rts := []) (n := 23) (k := 4) Tryz.func96 rfl rfl (by simp) rfl (fun t => ?_) rfl ?_
  · rcases t with _ | _ | _ | t <;> rfl
  obtain ⟨pl, ps, wl, wb⟩ := chipOk_parts h
  simp only at pl ps wl wb
  have rL := runs_132 p w h k _ rfl
  have rC := runs_75 p w (by rw [pl]; decide) (by rw [wl]; decide)
  have hk : (clearC p w k).2 = true → 0 ≤ k ∧ k ≤ 9 := fun e => by
    unfold clearC at e
    split at e
    · cases e
    · rename_i hc
      have : inB k 0 9 = true := by
        cases hh : inB k 0 9
        · exact absurd (.inl hh) hc
        · rfl
      unfold inB at this
      simpa using this
  unfold halfC at hX
  generalize clearC p w k = C at rL hX hk
  have bp : List.take p.length (p.map sRow) = p.map sRow := List.take_of_length_le (by simp)
  have bw : List.take w.length (w.map nRow) = w.map nRow := List.take_of_length_le (by simp)
  have xp : List.take C.1.1.length (C.1.1.map sRow) = C.1.1.map sRow := List.take_of_length_le (by simp)
  have xw : List.take C.1.2.length (C.1.2.map nRow) = C.1.2.map nRow := List.take_of_length_le (by simp)
  refine vw_go rfl ?_; simp only [go_sem,setCells,setIn]
  refine vw_go rfl ?_; simp only [go_sem,setCells,setIn]
  refine ⟨_, _, call_rx [0, 0] Tryz.func132 (rL) rfl rfl rfl rfl rfl rfl rfl (by simp [lendAll,lendC,seek,fresh,nav,rcells,RT.cells,VV.cells,tabE_cons,tabS_cons,ev,take_map_len,sRow_r1,sRow_comp,sRow_clean,nRow_r1,nRow_comp,nRow_clean,actRow_r1,actRow_clean]) rfl (by simp [rcells,RT.cells,CT.clean,T.clean,sRow_r1,sRow_comp,sRow_clean,nRow_r1,nRow_comp,nRow_clean,actRow_r1,actRow_clean]) rfl rfl, ?_⟩
  simp only [runH,runX,xp,xw,List.drop_length,go_sem,setCells,setIn]
  refine vw_seq ?_
  cases hc : C.2
  · rw [if_pos hc] at hX
    subst hX
    refine vw_go rfl ?_; simp only [hc,go_sem,setCells,setIn]
    refine vw_cond (t := true) rfl (fun _ => ?_) (fun h => nomatch h)
    refine vw_go rfl ?_; simp only [xp,xw,List.drop_length,go_sem,setCells,setIn]
    exact vw_ret (r_then (e_ret (ret_by rfl rfl (by simp [RB]) rfl (by simp only [takeCs,takeC,go_sem,setCells,setIn]))))
  rw [if_neg (by rw [hc]; simp)] at hX
  obtain ⟨K, rfl⟩ : ∃ K : Nat, k = K := ⟨k.toNat, by have := hk hc; omega⟩
  have hK := hk hc
  rw [Int.toNat_natCast] at hX
  have rW := runs_133 p w pl wl wb K n (by omega) hn _ _ rfl rfl
  subst hX
  generalize wipeTo p K (min n 6) = P2 at rW ⊢
  generalize wearUp w K = W2 at rW ⊢
  have bP : List.take P2.length (P2.map sRow) = P2.map sRow := List.take_of_length_le (by simp)
  have bW : List.take W2.length (W2.map nRow) = W2.map nRow := List.take_of_length_le (by simp)
  refine vw_go rfl ?_; simp only [hc,go_sem,setCells,setIn]
  refine vw_cond (t := false) rfl (fun h => nomatch h) (fun _ => ?_)
  refine vw_skip (n_then ?_)
  refine vw_go rfl ?_; simp only [go_sem,setCells,setIn]
  refine ⟨_, _, call_rx [0] Tryz.func75 (rC) rfl rfl rfl rfl rfl rfl rfl (by simp [lendAll,lendC,seek,fresh,nav,rcells,RT.cells,VV.cells,tabE_cons,tabS_cons,ev,take_map_len,sRow_r1,sRow_comp,sRow_clean,nRow_r1,nRow_comp,nRow_clean,actRow_r1,actRow_clean]) rfl (by simp [rcells,RT.cells,CT.clean,T.clean,sRow_r1,sRow_comp,sRow_clean,nRow_r1,nRow_comp,nRow_clean,actRow_r1,actRow_clean]) rfl rfl, ?_⟩
  simp only [runH,runX,bp,bw,List.drop_length,go_sem,setCells,setIn]
  refine ⟨_, _, call_own [0, 0, 0] [(197636, none), (197637, none)] Tryz.func133 (rW) rfl rfl rfl rfl rfl rfl rfl (by simp [takeCs,takeC,takeV,seek,fresh,nav,takenUp,rcells,RT.cells,VV.cells,tabE_cons,tabS_cons,ups_tab,ups_nil,ev,take_map_len,sRow_r1,sRow_comp,sRow_clean,nRow_r1,nRow_comp,nRow_clean,actRow_r1,actRow_clean,lit,bp,bw,St.put,List.drop_length]) rfl (by simp [rcells,RT.cells,CT.clean,T.clean,sRow_r1,sRow_comp,sRow_clean,nRow_r1,nRow_comp,nRow_clean,actRow_r1,actRow_clean,lit,bp,bw,St.put,List.drop_length]) rfl rfl, ?_⟩
  simp only [runH,runX,bP,bW,List.drop_length,go_sem,setCells,setIn]
  exact vw_ret (e_ret (ret_by rfl rfl (by simp [RB]) rfl (by simp only [takeCs,takeC,go_sem,setCells,setIn])))
set_option maxHeartbeats 2000000 in
theorem runs_66 (p : List ByteArray) (w : List Int) (h : COk (p, w)) (l : List ActV) (hl : l.length ≤ 1000) (hs : ∀ a ∈ l, a.text.size ≤ 2 ^ 40) (k n : Nat) (hk : k ≤ l.length) (hn : n ≤ 1000) (X : Chip2) (hX : X = cutC p w l k n) :
    Runs Tryz.prog 66 [.agg [.v (.list false 1 (p.map sRow)), .v (.list false 1 (w.map nRow))], .one (.v (.list false 3 (l.map actRow))), .one (.v (.int .i64 k)), .one (.v (.int .i64 n))] [.agg [.v (.list true 1 (X.1.map sRow)), .v (.list true 1 (X.2.map nRow))]] [] := by
  refine runs_tab (tab := [(0, .agg [.c (.list false 1 (p.map sRow)), .c (.list false 1 (w.map nRow))]), (1, .c (.list false 3 (l.map actRow))), (2, .c (.int .i64 k)), (3, .c (.int .i64 n))]) (rts := []) (n := 57) (k := 5) Tryz.func66 rfl rfl (by simp) rfl (fun t => ?_) rfl ?_
  · rcases t with _ | _ | _ | _ | t <;> rfl
  have rN := runs_77 (k : Int) (l.length : Int)
  have e1 : (if (k : Int) < (l.length : Int) then (k : Int) else (l.length : Int)) = (k : Int) := by split <;> omega
  rw [e1] at rN
  have rM := runs_78 (k : Int) 0
  have e2 : (if (0 : Int) < (k : Int) then (k : Int) else 0) = (k : Int) := by split <;> omega
  rw [e2] at rM
  have rA := runs_94 p w h (l.take k) (by rw [List.length_take]; omega) _ rfl
  have hG := applyGo_ok (l.take k) (p, w) h
  unfold cutC at hX
  generalize applyGo (l.take k) (p, w) = G at rA hG hX
  have xp : List.take G.1.1.length (G.1.1.map sRow) = G.1.1.map sRow := List.take_of_length_le (by simp)
  have xw : List.take G.1.2.length (G.1.2.map nRow) = G.1.2.map nRow := List.take_of_length_le (by simp)
  have c0 : (0:Int) ≤ (k : Int) := by omega
  have c1 : (k : Int) ≤ (l.length : Int) := by omega
  refine vw_go rfl ?_; simp only [go_sem,setCells,setIn]
  refine vw_go rfl ?_; simp only [go_sem,setCells,setIn]
  refine ⟨_, _, call_rd [0, 0] Tryz.func77 (rN) rfl rfl rfl rfl rfl rfl rfl rfl rfl rfl rfl rfl rfl, ?_⟩
  simp only [runH,runX,go_sem,setCells,setIn]
  refine ⟨_, _, call_rd [0, 0] Tryz.func78 (rM) rfl rfl rfl rfl rfl rfl rfl rfl (by simp [rcells,RT.cells,lit]) rfl rfl rfl rfl, ?_⟩
  simp only [runH,runX,go_sem,setCells,setIn]
  refine vw_drawA mixed rfl rfl ?_; intro A hAA
  simp (maxSteps := 1000000) only [c0, c1, hk, Int.toNat_natCast, List.length_map, ← List.map_take, go_sem, setCells, setIn, runW_step]
  refine ⟨_, _, _, call_rx_at [0, 0] [] Tryz.func94 (rA) rfl rfl rfl rfl rfl rfl rfl (fun st1 hst1 => by (try simp only [List.mem_cons,List.not_mem_nil,or_false,false_or,forall_eq_or_imp,forall_eq] at hst1); simp [lendAll,lendC,seek,fresh,nav,rcells,RT.cells,VV.cells,tabE_cons,tabS_cons,ev,take_map_len,hst1,sRow_r1,sRow_comp,sRow_clean,nRow_r1,nRow_comp,nRow_clean,actRow_r1,actRow_clean,← List.map_take]) rfl (by simp [rcells,RT.cells,CT.clean,T.clean,sRow_r1,sRow_comp,sRow_clean,nRow_r1,nRow_comp,nRow_clean,actRow_r1,actRow_clean,← List.map_take]) rfl rfl, ?_⟩
  (unfold runX; simp (maxSteps := 1000000) only [xp, xw, List.drop_length, go_sem, setCells, setIn, runW_step])
  refine ⟨by subst hAA; unfold allOk; kernel_rfl, ?_⟩
  refine vw_seq ?_
  cases hok : G.2
  case false =>
    rw [if_pos (.inl hok)] at hX
    subst hX
    refine vw_go rfl ?_; simp only [hok,go_sem,setCells,setIn]
    refine vw_cond (t := true) rfl (fun _ => ?_) (fun h => nomatch h)
    refine vw_go rfl ?_; simp only [xp,xw,List.drop_length,go_sem,setCells,setIn]
    exact vw_ret (r_then (e_ret (ret_by rfl rfl (by simp [RB]) rfl (by simp only [takeCs,takeC,go_sem,setCells,setIn]))))
  by_cases hkl : k = l.length
  · rw [if_pos (.inr hkl)] at hX
    subst hX
    have q1 : decide ((k : Int) = (l.length : Int)) = true := decide_eq_true (by omega)
    refine vw_go rfl ?_; simp only [hok,q1,List.length_map,go_sem,setCells,setIn]
    refine vw_cond (t := true) rfl (fun _ => ?_) (fun h => nomatch h)
    refine vw_go rfl ?_; simp only [xp,xw,List.drop_length,go_sem,setCells,setIn]
    exact vw_ret (r_then (e_ret (ret_by rfl rfl (by simp [RB]) rfl (by simp only [takeCs,takeC,go_sem,setCells,setIn]))))
  have q1 : ¬ (k : Int) = (l.length : Int) := by omega
  rw [if_neg (by rintro (h | h); rw [hok] at h; cases h; exact hkl h)] at hX
  obtain ⟨a, ha⟩ : ∃ a, l[k]? = some a := ⟨_, List.getElem?_eq_getElem (by omega)⟩
  rw [ha] at hX
  simp only at hX
  have d1 : (k : Int) < (l.length : Int) := by omega
  have d2 : k < l.length := by omega
  refine vw_go rfl ?_; simp only [hok,q1,List.length_map,go_sem,setCells,setIn]
  refine vw_cond (t := false) rfl (fun h => nomatch h) (fun _ => ?_)
  refine vw_skip (n_then ?_)
  refine vw_go rfl ?_; simp only [c0,d1,d2,Int.toNat_natCast,getD_map_of ha,actRow,List.length_map,List.drop_length,go_sem,setCells,setIn]
  refine vw_seq ?_
  refine vw_go rfl ?_; simp only [go_sem,setCells,setIn]
  refine vw_block ?_
  by_cases h1 : a.kind = 1
  · rw [if_pos h1] at hX
    have rT := runs_95 G.1.1 G.1.2 hG a.at_ a.text (hs a (List.mem_of_getElem? ha)) n hn X hX
    have yp : List.take X.1.length (X.1.map sRow) = X.1.map sRow := List.take_of_length_le (by simp)
    have yw : List.take X.2.length (X.2.map nRow) = X.2.map nRow := List.take_of_length_le (by simp)
    refine vw_go rfl ?_; simp only [h1,go_sem,setCells,setIn]
    refine vw_cond (t := true) rfl (fun _ => ?_) (fun h => nomatch h)
    refine vw_go rfl ?_; simp only [xp,xw,List.drop_length,go_sem,setCells,setIn]
    refine ⟨_, _, call_rx [0, 0, 0, 0] Tryz.func95 (rT) rfl rfl rfl rfl rfl rfl rfl (by simp [lendAll,lendC,seek,fresh,nav,rcells,RT.cells,VV.cells,tabE_cons,tabS_cons,ev,take_map_len,sRow_r1,sRow_comp,sRow_clean,nRow_r1,nRow_comp,nRow_clean,actRow_r1,actRow_clean,xp,xw,List.drop_length]) rfl (by simp [rcells,RT.cells,CT.clean,T.clean,sRow_r1,sRow_comp,sRow_clean,nRow_r1,nRow_comp,nRow_clean,actRow_r1,actRow_clean,xp,xw,List.drop_length]) rfl rfl, ?_⟩
    simp only [runH,runX,yp,yw,List.drop_length,go_sem,setCells,setIn]
    refine vw_ret ?_
    repeat (first | refine r_then ?_ | refine r_block ?_)
    exact e_ret (ret_by rfl rfl (by simp [RB]) rfl (by simp only [takeCs,takeC,go_sem,setCells,setIn]))
  rw [if_neg h1] at hX
  refine vw_go rfl ?_; simp only [h1,go_sem,setCells,setIn]
  refine vw_cond (t := false) rfl (fun h => nomatch h) (fun _ => ?_)
  by_cases h2 : a.kind = 2
  · rw [if_pos h2] at hX
    have rT := runs_96 G.1.1 G.1.2 hG a.at_ n hn X hX
    have yp : List.take X.1.length (X.1.map sRow) = X.1.map sRow := List.take_of_length_le (by simp)
    have yw : List.take X.2.length (X.2.map nRow) = X.2.map nRow := List.take_of_length_le (by simp)
    refine vw_go rfl ?_; simp only [h2,go_sem,setCells,setIn]
    refine vw_cond (t := true) rfl (fun _ => ?_) (fun h => nomatch h)
    refine vw_go rfl ?_; simp only [xp,xw,List.drop_length,go_sem,setCells,setIn]
    refine ⟨_, _, call_rx [0, 0, 0] Tryz.func96 (rT) rfl rfl rfl rfl rfl rfl rfl (by simp [lendAll,lendC,seek,fresh,nav,rcells,RT.cells,VV.cells,tabE_cons,tabS_cons,ev,take_map_len,sRow_r1,sRow_comp,sRow_clean,nRow_r1,nRow_comp,nRow_clean,actRow_r1,actRow_clean,xp,xw,List.drop_length]) rfl (by simp [rcells,RT.cells,CT.clean,T.clean,sRow_r1,sRow_comp,sRow_clean,nRow_r1,nRow_comp,nRow_clean,actRow_r1,actRow_clean,xp,xw,List.drop_length]) rfl rfl, ?_⟩
    simp only [runH,runX,yp,yw,List.drop_length,go_sem,setCells,setIn]
    refine vw_ret ?_
    repeat (first | refine r_then ?_ | refine r_block ?_)
    exact e_ret (ret_by rfl rfl (by simp [RB]) rfl (by simp only [takeCs,takeC,go_sem,setCells,setIn]))
  rw [if_neg h2] at hX
  subst hX
  refine vw_go rfl ?_; simp only [h2,go_sem,setCells,setIn]
  refine vw_cond (t := false) rfl (fun h => nomatch h) (fun _ => ?_)
  refine vw_skip (n_block (n_then ?_))
  refine vw_go rfl ?_; simp only [xp,xw,List.drop_length,go_sem,setCells,setIn]
  exact vw_ret (e_ret (ret_by rfl rfl (by simp [RB]) rfl (by simp only [takeCs,takeC,go_sem,setCells,setIn])))
end Go.Proofs.YtkijdbljnefeaaaGreatDoor
