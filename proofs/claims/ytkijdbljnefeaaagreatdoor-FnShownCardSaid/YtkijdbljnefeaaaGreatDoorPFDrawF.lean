/- Tell values: trees, and the walks of their size, their copy, their comparing (one; a slice). Printed by a program (tfun.py). Draws of paths, texts and ops. Draws of chips and what stands on them. -/
import Derived.Test.YtkijdbljnefeaaaGreatDoorPFIn
import Derived.Test.YtkijdbljnefeaaaGreatDoorPFBigG
import Derived.Test.YtkijdbljnefeaaaGreatDoorPFWorkS
import Derived.Test.YtkijdbljnefeaaaGreatDoorPFCutS
set_option linter.unusedSimpArgs false
set_option linter.unusedVariables false
namespace Go.Proofs.YtkijdbljnefeaaaGreatDoor
open Go.VM
set_option maxRecDepth 100000
attribute [local congr] vw_congr runV_congr runH_congr runW_congr runX_congr stuckV_congr stuckX_congr
structure TellV where
  code : Int
  text : ByteArray
  deriving DecidableEq
def TellV.ok (x : TellV) : Prop := x.text.size < 2 ^ 63
end Go.Proofs.YtkijdbljnefeaaaGreatDoor
namespace Go.Proofs.YtkijdbljnefeaaaGreatDoor
open Go.VM Go
set_option maxRecDepth 100000
attribute [local congr] vw_congr runV_congr runH_congr runW_congr runX_congr stuckV_congr stuckX_congr
def pathL : List ByteArray := [⟨#[]⟩, ⟨#[97]⟩, ⟨#[98]⟩, ⟨#[97, 47, 98]⟩, ⟨#[97, 47, 99, 100]⟩, ⟨#[98, 47, 97]⟩, ⟨#[97, 47, 98, 47, 97]⟩, ⟨#[99, 100]⟩, ⟨#[108, 111, 103]⟩, ⟨#[97, 47, 98, 47, 97, 47, 98]⟩, ⟨#[122, 122]⟩]
def badL : List ByteArray := [⟨#[47]⟩, ⟨#[97, 47]⟩, ⟨#[47, 97]⟩, ⟨#[97, 47, 47, 98]⟩, ⟨#[65]⟩, ⟨#[97, 47, 98, 47, 97, 47, 98, 47, 97]⟩, ⟨#[97, 98, 99, 100, 101, 102, 103]⟩, ⟨#[97, 32, 98]⟩]
def textL : List ByteArray := [⟨#[]⟩, ⟨#[97]⟩, ⟨#[104, 101, 108, 108, 111]⟩, ⟨#[116, 119, 111, 32, 119, 111, 114, 100, 115]⟩, ⟨#[0, 255]⟩, ⟨#[100]⟩, ⟨#[102, 100, 97, 116, 97]⟩]
def dataL : List ByteArray := [⟨#[]⟩, ⟨#[120]⟩, ⟨#[104, 101, 108, 108, 111]⟩, ⟨#[100]⟩]
def kindL : List Int := [1, 1, 2, 2, 3, 3, 4, 5, 6, 7]
def drawPath (L : List UInt8) (c : Cur) : ByteArray := pickV L c pathL ⟨#[]⟩
def drawBad (L : List UInt8) (c : Cur) : ByteArray := if belV L c 5 = 0 then pickV L (byteC L c) badL ⟨#[]⟩ else drawPath L (byteC L c)
theorem runs_63 (v : Value) (L : List UInt8) (hL : L.length < 2 ^ 60) (c : Cur) :
    Runs Tryz.prog 63 [.one (.box [.held v 1 (L.map bRow), .int .i64 c.i, .int .i64 c.h])] [.one (.v (.str (drawPath L c)))] [(0, ⟨true, 3, [[.held v 1 (L.map bRow), .int .i64 (byteC L c).i, .int .i64 (byteC L c).h]], []⟩)] := by
  refine runs_tabB (tab := [(0, .ptr 0 [] 0 0 0)]) (rts := [(0, some ⟨true, 3, [[.held v 1 (L.map bRow), .int .i64 c.i, .int .i64 c.h]], []⟩)]) (n := 6) (k := 1) Tryz.func63 rfl rfl (by simp) rfl (fun t => ?_) rfl ?_
  · rcases t with _ | t <;> rfl
  have rP := runs_29 v L hL c pathL (by decide) (by decide)
  refine vw_go rfl ?_; simp only [go_sem,setCells,setIn]
  refine vw_go rfl ?_; simp only [range1,List.replicate_succ,List.replicate_zero,List.flatten_cons,List.flatten_nil,List.range_zero,gt_iff_lt,go_sem,setCells,setIn]
  refine ⟨_, _, call_pt [0, 0] 0 Tryz.func29 (rP) rfl rfl rfl rfl rfl rfl rfl rfl (by simp [lendAll,lendC,seek,fresh,nav,rcells,RT.cells,VV.cells,tabE_cons,tabS_cons,St.put,ev,lit,take_map_len,sRow,pathL]) rfl rfl (by simp [rcells,RT.cells,CT.fine,T.fine,sRow,pathL]) (by exact ⟨.inr ⟨0, _, _, rfl, .head _, .head _⟩, trivial, trivial, trivial⟩) rfl rfl, ?_⟩
  simp only [runH,runX,go_sem,setCells,setIn]
  exact vw_ret (e_ret (ret_b rfl rfl (by simp [RB]) rfl rfl ⟨⟨by simp, _, rfl, rfl, rfl, rfl⟩, trivial⟩))
theorem runs_41 (v : Value) (L : List UInt8) (hL : L.length < 2 ^ 60) (c : Cur) :
    Runs Tryz.prog 41 [.one (.box [.held v 1 (L.map bRow), .int .i64 c.i, .int .i64 c.h])] [.one (.v (.str (drawBad L c)))] [(0, ⟨true, 3, [[.held v 1 (L.map bRow), .int .i64 (byteC L (byteC L c)).i, .int .i64 (byteC L (byteC L c)).h]], []⟩)] := by
  refine runs_tabB (tab := [(0, .ptr 0 [] 0 0 0)]) (rts := [(0, some ⟨true, 3, [[.held v 1 (L.map bRow), .int .i64 c.i, .int .i64 c.h]], []⟩)]) (n := 10) (k := 1) Tryz.func41 rfl rfl (by simp) rfl (fun t => ?_) rfl ?_
  · rcases t with _ | t <;> rfl
  have rO := runs_27 v L hL c 5 (by decide) (by decide)
  have rP := runs_29 v L hL (byteC L c) badL (by decide) (by decide)
  have rQ := runs_63 v L hL (byteC L c)
  unfold drawBad
  refine vw_go rfl ?_; simp only [go_sem,setCells,setIn]
  refine vw_seq ?_
  refine vw_go rfl ?_; simp only [go_sem,setCells,setIn]
  refine ⟨_, _, call_pt [0, 0] 0 Tryz.func27 (rO) rfl rfl rfl rfl rfl rfl rfl rfl (by simp [lendAll,lendC,seek,fresh,nav,rcells,RT.cells,VV.cells,tabE_cons,tabS_cons,St.put,ev,lit,take_map_len]) rfl rfl (by simp [rcells,RT.cells,CT.fine,T.fine]) (by exact ⟨.inr ⟨0, _, _, rfl, .head _, .head _⟩, trivial, trivial, trivial⟩) rfl rfl, ?_⟩
  simp only [runH,runX,go_sem,setCells,setIn]
  by_cases h : belV L c 5 = 0
  · rw [if_pos h]
    refine vw_cond (t := true) (by simp [ev,tabE_cons,h]) (fun _ => ?_) (fun h => nomatch h)
    refine vw_go rfl ?_; simp only [range1,List.replicate_succ,List.replicate_zero,List.flatten_cons,List.flatten_nil,List.range_zero,gt_iff_lt,go_sem,setCells,setIn]
    refine ⟨_, _, call_pt [0, 0] 0 Tryz.func29 (rP) rfl rfl rfl rfl rfl rfl rfl rfl (by simp [lendAll,lendC,seek,fresh,nav,rcells,RT.cells,VV.cells,tabE_cons,tabS_cons,St.put,ev,lit,take_map_len,sRow,badL]) rfl rfl (by simp [rcells,RT.cells,CT.fine,T.fine,sRow,badL]) (by exact ⟨.inr ⟨0, _, _, rfl, .head _, .head _⟩, trivial, trivial, trivial⟩) rfl rfl, ?_⟩
    simp only [runH,runX,go_sem,setCells,setIn]
    exact vw_ret (r_then (e_ret (ret_b rfl rfl (by simp [RB]) rfl rfl ⟨⟨by simp, _, rfl, rfl, rfl, rfl⟩, trivial⟩)))
  · rw [if_neg h]
    refine vw_cond (t := false) (by simp [ev,tabE_cons,h]) (fun h => nomatch h) (fun _ => ?_)
    refine vw_skip (n_then ?_)
    refine vw_go rfl ?_; simp only [go_sem,setCells,setIn]
    refine ⟨_, _, call_pt [0] 0 Tryz.func63 (rQ) rfl rfl rfl rfl rfl rfl rfl rfl (by simp [lendAll,lendC,seek,fresh,nav,rcells,RT.cells,VV.cells,tabE_cons,tabS_cons,St.put,ev,lit,take_map_len]) rfl rfl (by simp [rcells,RT.cells,CT.fine,T.fine]) (by exact ⟨.inr ⟨0, _, _, rfl, .head _, .head _⟩, trivial, trivial, trivial⟩) rfl rfl, ?_⟩
    simp only [runH,runX,go_sem,setCells,setIn]
    exact vw_ret (e_ret (ret_b rfl rfl (by simp [RB]) rfl rfl ⟨⟨by simp, _, rfl, rfl, rfl, rfl⟩, trivial⟩))
/-- A text that grows while it is too short; each round draws. -/
def growT (L : List UInt8) (b : UInt8) (m : Int) : Nat → Cur → ByteArray → ByteArray × Cur
  | 0, c, s => (s, c)
  | n + 1, c, s => if (s.size : Int) < m + belV L c 2 then growT L b m n (byteC L c) (s ++ ⟨#[b]⟩) else (s, byteC L c)
theorem growT_end {L : List UInt8} {b : UInt8} {m : Int} {n : Nat} {c : Cur} {s : ByteArray} (hn : 0 < n) (h : ¬ (s.size : Int) < m + belV L c 2) : growT L b m n c s = (s, byteC L c) := by
  cases n with
  | zero => omega
  | succ n => rw [growT, if_neg h]
theorem growT_size {L : List UInt8} {b : UInt8} {m : Nat} : ∀ (n : Nat) (c : Cur) (s : ByteArray), s.size ≤ m + 2 → (growT L b m n c s).1.size ≤ m + 2
  | 0, c, s, h => h
  | n + 1, c, s, h => by
    rw [growT]
    split
    · rename_i g
      have hb := belV_in L c (n := 2) (by decide)
      refine growT_size n _ _ ?_
      have : (s ++ (⟨#[b]⟩ : ByteArray)).size = s.size + 1 := by rw [ByteArray.size_append]; rfl
      omega
    · exact h
def drawText (L : List UInt8) (c : Cur) : ByteArray × Cur := if belV L c 20 = 0 then growT L 113 400 402 (byteC L c) ⟨#[]⟩ else (pickV L (byteC L c) textL ⟨#[]⟩, byteC L (byteC L c))
theorem runs_68 (v : Value) (L : List UInt8) (hL : L.length < 2 ^ 60) (c : Cur) (C : Cur) (hC : C = (drawText L c).2) :
    Runs Tryz.prog 68 [.one (.box [.held v 1 (L.map bRow), .int .i64 c.i, .int .i64 c.h])] [.one (.v (.str (drawText L c).1))] [(0, ⟨true, 3, [[.held v 1 (L.map bRow), .int .i64 C.i, .int .i64 C.h]], []⟩)] := by
  refine runs_tabB (tab := [(0, .ptr 0 [] 0 0 0)]) (rts := [(0, some ⟨true, 3, [[.held v 1 (L.map bRow), .int .i64 c.i, .int .i64 c.h]], []⟩)]) (n := 18) (k := 1) Tryz.func68 rfl rfl (by simp) rfl (fun t => ?_) rfl ?_
  · rcases t with _ | t <;> rfl
  have rO := runs_27 v L hL c 20 (by decide) (by decide)
  have rP := runs_29 v L hL (byteC L c) textL (by decide) (by decide)
  unfold drawText at hC ⊢
  refine vw_go rfl ?_; simp only [go_sem,setCells,setIn]
  refine vw_seq ?_
  refine vw_go rfl ?_; simp only [go_sem,setCells,setIn]
  refine ⟨_, _, call_pt [0, 0] 0 Tryz.func27 (rO) rfl rfl rfl rfl rfl rfl rfl rfl (by simp [lendAll,lendC,seek,fresh,nav,rcells,RT.cells,VV.cells,tabE_cons,tabS_cons,St.put,ev,lit,take_map_len]) rfl rfl (by simp [rcells,RT.cells,CT.fine,T.fine]) (by exact ⟨.inr ⟨0, _, _, rfl, .head _, .head _⟩, trivial, trivial, trivial⟩) rfl rfl, ?_⟩
  simp only [runH,runX,go_sem,setCells,setIn]
  by_cases h : belV L c 20 = 0
  · rw [if_pos h] at hC ⊢
    refine vw_cond (t := true) (by simp [ev,tabE_cons,h]) (fun _ => ?_) (fun h => nomatch h)
    refine vw_go rfl ?_; simp only [go_sem,setCells,setIn]
    refine vw_seq ?_
    refine vw_block ?_
    refine vw_loop_tab (α := Nat × Cur × ByteArray × List Path) (fun x => x.1) (fun x => ⟨tabE [(0, .ptr 0 [] 0 0 0), (3, .c (.str x.2.2.1))], tabS [(0, some ⟨true, 3, [[.held v 1 (L.map bRow), .int .i64 x.2.1.i, .int .i64 x.2.1.h]], x.2.2.2⟩)], 1⟩)
      (fun x => growT L 113 400 x.1 x.2.1 x.2.2.1 = growT L 113 400 402 (byteC L c) ⟨#[]⟩ ∧ x.1 + x.2.2.1.size = 402 ∧ 1 ≤ x.1) (x := (402, byteC L c, ⟨#[]⟩, [[]])) ?round ?h0 ?hn
    case h0 => exact ⟨rfl, rfl, Nat.le_of_ble_eq_true rfl⟩
    case hn => (refine norm_to [(0, 0)] rfl ?_ ?_ <;> simp only [go_sem])
    rintro ⟨n, d, s, lg⟩ ⟨hg, hs, hn1⟩
    simp only at hg hs hn1
    have rB := runs_21 v L hL d 2 (by decide) (by decide)
    have hb := belV_in L d (n := 2) (by decide)
    have w4 : IntKind.wrap .i64 (400 + belV L d 2) = 400 + belV L d 2 := wrap_i64 (by omega) (by omega)
    refine vw_seq ?_
    refine vw_go rfl ?_; simp only [go_sem,setCells,setIn]
    refine ⟨_, _, call_pt [0, 0] 0 Tryz.func21 (rB) rfl rfl rfl rfl rfl rfl rfl rfl (by simp [lendAll,lendC,seek,fresh,nav,rcells,RT.cells,VV.cells,tabE_cons,tabS_cons,St.put,ev,lit,take_map_len]) rfl rfl (by simp [rcells,RT.cells,CT.fine,T.fine]) (by exact ⟨.inr ⟨0, _, _, rfl, .head _, .head _⟩, trivial, trivial, trivial⟩) rfl rfl, ?_⟩
    simp only [runH,runX,w4,go_sem,setCells,setIn]
    by_cases hc : (s.size : Int) < 400 + belV L d 2
    · refine vw_cond (t := true) (by simp [ev,tabE_cons,hc]) (fun _ => ?_) (fun h => nomatch h)
      refine vw_skip (n_then ?_)
      obtain ⟨k, rfl⟩ : ∃ k, n = k + 1 := ⟨n - 1, by omega⟩
      have hz : (s ++ (⟨#[113]⟩ : ByteArray)).size = s.size + 1 := by rw [ByteArray.size_append]; rfl
      have A1 : s.size + 1 < 2 ^ 60 := by omega
      refine vw_block ?_
      refine vw_last rfl ?_; simp only [A1,sz_lit,List.size_toArray,go_sem,setCells,setIn]
      refine (n_block (n_then ?_))
      refine ⟨(k, byteC L d, s ++ ⟨#[113]⟩, lg ++ [[]]), by simp only; omega, ⟨?_, by simp only [hz]; omega, by simp only; omega⟩, ?_⟩
      · rw [growT, if_pos hc] at hg
        exact hg
      refine norm_to [(0, 0)] rfl ?_ ?_ <;> simp only [go_sem]
    · refine vw_cond (t := false) (by simp [ev,tabE_cons,hc]) (fun h => nomatch h) (fun _ => ?_)
      refine vw_exit (x_then (x_then (x_block (n_then ?_))))
      rw [growT_end (by omega) hc] at hg
      rw [← hg] at hC ⊢
      subst hC
      refine vw_go rfl ?_; simp only [go_sem,setCells,setIn]
      exact vw_ret (r_then (e_ret (ret_b rfl rfl (by simp [RB]) rfl rfl ⟨⟨by simp, _, rfl, rfl, rfl, rfl⟩, trivial⟩)))
  · rw [if_neg h] at hC ⊢
    subst hC
    refine vw_cond (t := false) (by simp [ev,tabE_cons,h]) (fun h => nomatch h) (fun _ => ?_)
    refine vw_skip (n_then ?_)
    refine vw_go rfl ?_; simp only [range1,List.replicate_succ,List.replicate_zero,List.flatten_cons,List.flatten_nil,List.range_zero,gt_iff_lt,go_sem,setCells,setIn]
    refine ⟨_, _, call_pt [0, 0] 0 Tryz.func29 (rP) rfl rfl rfl rfl rfl rfl rfl rfl (by simp [lendAll,lendC,seek,fresh,nav,rcells,RT.cells,VV.cells,tabE_cons,tabS_cons,St.put,ev,lit,take_map_len,sRow,textL]) rfl rfl (by simp [rcells,RT.cells,CT.fine,T.fine,sRow,textL]) (by exact ⟨.inr ⟨0, _, _, rfl, .head _, .head _⟩, trivial, trivial, trivial⟩) rfl rfl, ?_⟩
    simp only [runH,runX,go_sem,setCells,setIn]
    exact vw_ret (e_ret (ret_b rfl rfl (by simp [RB]) rfl rfl ⟨⟨by simp, _, rfl, rfl, rfl, rfl⟩, trivial⟩))
def drawOp (L : List UInt8) (c : Cur) : OpV × Cur :=
  if pickV L c kindL 0 = 3 then (⟨3, drawPath L (byteC L c), ⟨#[]⟩, pickV L (byteC L (byteC L c)) dataL ⟨#[]⟩⟩, byteC L (byteC L (byteC L c)))
  else if pickV L c kindL 0 = 6 then (⟨6, drawPath L (byteC L c), drawPath L (byteC L (byteC L c)), ⟨#[]⟩⟩, byteC L (byteC L (byteC L c)))
  else (⟨pickV L c kindL 0, drawPath L (byteC L c), ⟨#[]⟩, ⟨#[]⟩⟩, byteC L (byteC L c))
theorem runs_62 (v : Value) (L : List UInt8) (hL : L.length < 2 ^ 60) (c : Cur) (o : OpV) (C : Cur) (hC : (o, C) = drawOp L c) :
    Runs Tryz.prog 62 [.one (.box [.held v 1 (L.map bRow), .int .i64 c.i, .int .i64 c.h])] [.agg [.v (.int .i64 o.kind), .v (.str o.path), .v (.str o.to), .v (.str o.data)]] [(0, ⟨true, 3, [[.held v 1 (L.map bRow), .int .i64 C.i, .int .i64 C.h]], []⟩)] := by
  refine runs_tabB (tab := [(0, .ptr 0 [] 0 0 0)]) (rts := [(0, some ⟨true, 3, [[.held v 1 (L.map bRow), .int .i64 c.i, .int .i64 c.h]], []⟩)]) (n := 24) (k := 1) Tryz.func62 rfl rfl (by simp) rfl (fun t => ?_) rfl ?_
  · rcases t with _ | t <;> rfl
  have rK := runs_43 v L hL c kindL (by decide) (by decide)
  have rP := runs_63 v L hL (byteC L c)
  have rD := runs_29 v L hL (byteC L (byteC L c)) dataL (by decide) (by decide)
  have rT := runs_63 v L hL (byteC L (byteC L c))
  unfold drawOp at hC
  refine vw_go rfl ?_; simp only [go_sem,setCells,setIn]
  refine vw_go rfl ?_; simp only [range1,List.replicate_succ,List.replicate_zero,List.flatten_cons,List.flatten_nil,List.range_zero,gt_iff_lt,go_sem,setCells,setIn]
  refine ⟨_, _, call_pt [0, 0] 0 Tryz.func43 (rK) rfl rfl rfl rfl rfl rfl rfl rfl (by simp [lendAll,lendC,seek,fresh,nav,rcells,RT.cells,VV.cells,tabE_cons,tabS_cons,St.put,ev,lit,take_map_len,nRow,kindL]) rfl rfl (by simp [rcells,RT.cells,CT.fine,T.fine,nRow,kindL]) (by exact ⟨.inr ⟨0, _, _, rfl, .head _, .head _⟩, trivial, trivial, trivial⟩) rfl rfl, ?_⟩
  simp only [runH,runX,go_sem,setCells,setIn]
  refine ⟨_, _, call_pt [0] 0 Tryz.func63 (rP) rfl rfl rfl rfl rfl rfl rfl rfl (by simp [lendAll,lendC,seek,fresh,nav,rcells,RT.cells,VV.cells,tabE_cons,tabS_cons,St.put,ev,lit,take_map_len]) rfl rfl (by simp [rcells,RT.cells,CT.fine,T.fine]) (by exact ⟨.inr ⟨0, _, _, rfl, .head _, .head _⟩, trivial, trivial, trivial⟩) rfl rfl, ?_⟩
  simp only [runH,runX,go_sem,setCells,setIn]
  refine vw_seq ?_
  refine vw_go rfl ?_; simp only [go_sem,setCells,setIn]
  generalize hk : pickV L c kindL 0 = k at hC
  refine vw_block ?_
  by_cases h3 : k = 3
  · rw [if_pos h3] at hC
    simp only [Prod.mk.injEq] at hC
    obtain ⟨rfl, rfl⟩ := hC
    subst h3
    refine vw_go rfl ?_; simp only [go_sem,setCells,setIn]
    refine vw_cond (t := true) rfl (fun _ => ?_) (fun h => nomatch h)
    refine vw_last rfl ?_; simp only [range1,List.replicate_succ,List.replicate_zero,List.flatten_cons,List.flatten_nil,List.range_zero,gt_iff_lt,go_sem,setCells,setIn]
    refine ⟨_, _, call_pt [0, 0] 0 Tryz.func29 (rD) rfl rfl rfl rfl rfl rfl rfl rfl (by simp [lendAll,lendC,seek,fresh,nav,rcells,RT.cells,VV.cells,tabE_cons,tabS_cons,St.put,ev,lit,take_map_len,sRow,dataL]) rfl rfl (by simp [rcells,RT.cells,CT.fine,T.fine,sRow,dataL]) (by exact ⟨.inr ⟨0, _, _, rfl, .head _, .head _⟩, trivial, trivial, trivial⟩) rfl rfl, ?_⟩
    simp only [runH,runX,go_sem,setCells,setIn]
    refine (n_block (n_then ?_))
    refine vw_go rfl ?_; simp only [go_sem,setCells,setIn]
    exact vw_ret (e_ret (ret_b rfl rfl (by simp [RB]) rfl rfl ⟨⟨by simp, _, rfl, rfl, rfl, rfl⟩, trivial⟩))
  rw [if_neg h3] at hC
  refine vw_go rfl ?_; simp only [h3,go_sem,setCells,setIn]
  refine vw_cond (t := false) rfl (fun h => nomatch h) (fun _ => ?_)
  by_cases h6 : k = 6
  · rw [if_pos h6] at hC
    simp only [Prod.mk.injEq] at hC
    obtain ⟨rfl, rfl⟩ := hC
    subst h6
    refine vw_go rfl ?_; simp only [go_sem,setCells,setIn]
    refine vw_cond (t := true) rfl (fun _ => ?_) (fun h => nomatch h)
    refine vw_last rfl ?_; simp only [go_sem,setCells,setIn]
    refine ⟨_, _, call_pt [0] 0 Tryz.func63 (rT) rfl rfl rfl rfl rfl rfl rfl rfl (by simp [lendAll,lendC,seek,fresh,nav,rcells,RT.cells,VV.cells,tabE_cons,tabS_cons,St.put,ev,lit,take_map_len]) rfl rfl (by simp [rcells,RT.cells,CT.fine,T.fine]) (by exact ⟨.inr ⟨0, _, _, rfl, .head _, .head _⟩, trivial, trivial, trivial⟩) rfl rfl, ?_⟩
    simp only [runH,runX,go_sem,setCells,setIn]
    refine (n_block (n_then ?_))
    refine vw_go rfl ?_; simp only [go_sem,setCells,setIn]
    exact vw_ret (e_ret (ret_b rfl rfl (by simp [RB]) rfl rfl ⟨⟨by simp, _, rfl, rfl, rfl, rfl⟩, trivial⟩))
  rw [if_neg h6] at hC
  simp only [Prod.mk.injEq] at hC
  obtain ⟨rfl, rfl⟩ := hC
  refine vw_go rfl ?_; simp only [h6,go_sem,setCells,setIn]
  refine vw_cond (t := false) rfl (fun h => nomatch h) (fun _ => ?_)
  refine vw_skip (n_block (n_then ?_))
  refine vw_go rfl ?_; simp only [go_sem,setCells,setIn]
  exact vw_ret (e_ret (ret_b rfl rfl (by simp [RB]) rfl rfl ⟨⟨by simp, _, rfl, rfl, rfl, rfl⟩, trivial⟩))
end Go.Proofs.YtkijdbljnefeaaaGreatDoor
namespace Go.Proofs.YtkijdbljnefeaaaGreatDoor
open Go.VM Go
set_option maxRecDepth 100000
attribute [-go_sem] runW_cons
attribute [local congr] vw_congr runV_congr runH_congr runW_congr runX_congr stuckV_congr stuckX_congr
/-! ### texts of what is planned -/
def ActsOk (l : List ActV) : Prop := ∀ a ∈ l, a.text.size ≤ 800
theorem actsOk_snoc {l : List ActV} {a : ActV} (h : ActsOk l) (ha : a.text.size ≤ 800) : ActsOk (l ++ [a]) := fun x hx => by
  rcases List.mem_append.1 hx with h1 | h1
  · exact h x h1
  · rw [List.mem_singleton] at h1; rw [h1]; exact ha
theorem burnW_acts {W : WorkV} (h : ActsOk W.acts) (s : Int) (d : ByteArray) : ActsOk (burnW W s d).acts := by
  unfold burnW
  split
  · exact h
  · exact actsOk_snoc h (recText_size _ _ _)
theorem cleanGo_acts (b : Int) : ∀ (l : List Int) (W : WorkV), ActsOk W.acts → ActsOk (cleanGo b l W).acts
  | [], W, h => h
  | x :: r, W, h => by
    unfold cleanGo
    split
    · exact h
    split
    · exact h
    · exact cleanGo_acts b r _ (burnW_acts h _ _)
theorem cleanW_acts {W : WorkV} (h : ActsOk W.acts) (b : Nat) : ActsOk (cleanW W b).acts := by
  have h1 := cleanGo_acts b (livesF W.f.map b) W h
  unfold cleanW cleanEnd
  split
  · exact h1
  · exact actsOk_snoc h1 (Nat.zero_le _)
theorem roomGo_acts : ∀ (n : Nat) (W : WorkV), ActsOk W.acts → ActsOk (roomGo n W).acts
  | 0, W, h => h
  | n + 1, W, h => by
    unfold roomGo
    split
    · exact h
    split
    · exact h
    split
    · exact h
    · exact roomGo_acts n _ (cleanW_acts h _)
theorem planF_acts (f : FtlV) (s : Int) (d : ByteArray) : ActsOk (planF f s d).1 := by
  have h1 := roomGo_acts 10 ⟨f, [], recOkB s f.seq d⟩ (fun a h => nomatch h)
  have h2 : ActsOk (planW f s d).acts := by
    unfold planW
    split
    · exact burnW_acts h1 _ _
    · exact h1
  unfold planF doneW
  split
  · split
    · exact fun a h => nomatch h
    · exact h2
  · exact fun a h => nomatch h
/-! ### the draw of what is right -/
def wordL : List ByteArray := [⟨#[]⟩, ⟨#[97]⟩, ⟨#[98, 98]⟩, ⟨#[104, 101, 108, 108, 111]⟩]
def secV (L : List UInt8) (c : Cur) : Int := if belV L (byteC L c) 2 = 0 then belV L c 26 % 4 else belV L c 26
def wordV (L : List UInt8) (c : Cur) : ByteArray := pickV L (byteC L (byteC L c)) wordL ⟨#[]⟩
def c3 (L : List UInt8) (c : Cur) : Cur := byteC L (byteC L (byteC L c))
def rightG (L : List UInt8) : Nat → Cur → FtlV → FtlV × Cur
  | 0, c, f => (f, c)
  | n + 1, c, f =>
    if (planF f (secV L c) (wordV L c)).2.2 = false then (f, c3 L c)
    else if belV L (c3 L c) 12 = 0 then
      rightG L n (byteC L (byteC L (byteC L (c3 L c)))) (mountC (cutC f.pages f.wear (planF f (secV L c) (wordV L c)).1 (belV L (byteC L (c3 L c)) ((planF f (secV L c) (wordV L c)).1.length + 1)).toNat (belV L (byteC L (byteC L (c3 L c))) 9).toNat).1
        (cutC f.pages f.wear (planF f (secV L c) (wordV L c)).1 (belV L (byteC L (c3 L c)) ((planF f (secV L c) (wordV L c)).1.length + 1)).toNat (belV L (byteC L (byteC L (c3 L c))) 9).toNat).2)
    else rightG L n (byteC L (c3 L c)) (planF f (secV L c) (wordV L c)).2.1
def chipNew : Chip2 := (List.replicate 60 ⟨#[]⟩, List.replicate 10 0)
theorem chipNew_ok : COk chipNew := by
  refine chipOk_of (by decide) (fun s hs => ?_) (by decide) (fun n hn => ?_)
  · rw [List.eq_of_mem_replicate hs]; exact Nat.zero_le _
  · rw [List.eq_of_mem_replicate hn]; decide
def ftlRight (L : List UInt8) (c : Cur) : FtlV × Cur := rightG L (belV L c 70).toNat (byteC L c) (mountC chipNew.1 chipNew.2)
theorem rightG_good (L : List UInt8) : ∀ (n : Nat) (c : Cur) (f : FtlV), FGood f → FGood (rightG L n c f).1
  | 0, c, f, h => h
  | n + 1, c, f, h => by
    obtain ⟨_, h2⟩ := planF_shape h (secV L c) (wordV L c)
    unfold rightG
    split
    · exact h
    rename_i hok
    split
    · exact rightG_good L n _ _ (mountC_good (cutC_ok (shape_chip h.shape) _ _ _))
    · exact rightG_good L n _ _ (h2 (by cases e : (planF f (secV L c) (wordV L c)).2.2; exact absurd e hok; rfl))
theorem ftlRight_good (L : List UInt8) (c : Cur) : FGood (ftlRight L c).1 := rightG_good L _ _ _ (mountC_good chipNew_ok)
theorem runs_64 : Runs Tryz.prog 64 [] [.agg [.v (.list true 1 (chipNew.1.map sRow)), .v (.list true 1 (chipNew.2.map nRow))]] [] := by
  refine runs_tab (tab := []) (rts := []) (n := 4) (k := 0) Tryz.func64 rfl rfl (by simp) rfl (fun t => ?_) rfl ?_
  · rfl
  refine vw_go rfl ?_; simp only [go_sem,setCells,setIn]
  refine vw_draw mixed rfl rfl ?_; simp only [go_sem,setCells,setIn]
  refine ⟨by unfold allOk; kernel_rfl, ?_⟩
  exact vw_ret (e_ret (ret_by rfl rfl (by simp [RB]) rfl (by simp only [takeCs,takeC,go_sem,setCells,setIn]; rfl)))
set_option maxHeartbeats 4000000 in
theorem runs_42 (v : Value) (L : List UInt8) (hL : L.length < 2 ^ 60) (c : Cur) (f : FtlV) (C : Cur) (hC : (f, C) = ftlRight L c) :
    Runs Tryz.prog 42 [.one (.box [.held v 1 (L.map bRow), .int .i64 c.i, .int .i64 c.h])] [.agg [.v (.list true 1 (f.pages.map sRow)), .v (.list true 1 (f.wear.map nRow)), .v (.list true 1 (f.map.map nRow)), .v (.int .i64 f.seq)]] [(0, ⟨true, 3, [[.held v 1 (L.map bRow), .int .i64 C.i, .int .i64 C.h]], []⟩)] := by
  refine runs_tabB (tab := [(0, .ptr 0 [] 0 0 0)]) (rts := [(0, some ⟨true, 3, [[.held v 1 (L.map bRow), .int .i64 c.i, .int .i64 c.h]], []⟩)]) (n := 54) (k := 1) Tryz.func42 rfl rfl (by simp) rfl (fun t => ?_) rfl ?_
  · rcases t with _ | t <;> rfl
  unfold ftlRight at hC
  have rN := runs_64
  obtain ⟨nl, ns, nwl, nwb⟩ := chipOk_parts chipNew_ok
  have hg0 := mountC_good chipNew_ok
  generalize chipNew = cn at rN nl ns nwl nwb hC hg0
  have rM := runs_50 cn.1 cn.2 (by rw [nl]; decide) (by rw [nwl]; decide) (fun s h => Nat.lt_of_le_of_lt (ns s h) (by decide)) _ rfl
  generalize mountC cn.1 cn.2 = f0 at rM hC hg0
  have rB := runs_21 v L hL c 70 (by decide) (by decide)
  have hb := belV_in L c (n := 70) (by decide)
  generalize belV L c 70 = b at rB hC hb
  generalize byteC L c = c1 at rB hC
  obtain ⟨N, rfl⟩ : ∃ N : Nat, b = N := ⟨b.toNat, by omega⟩
  rw [Int.toNat_natCast] at hC
  have np : List.take cn.1.length (cn.1.map sRow) = cn.1.map sRow := List.take_of_length_le (by simp)
  have nw : List.take cn.2.length (cn.2.map nRow) = cn.2.map nRow := List.take_of_length_le (by simp)
  have zp : List.take f0.pages.length (f0.pages.map sRow) = f0.pages.map sRow := List.take_of_length_le (by simp)
  have zw : List.take f0.wear.length (f0.wear.map nRow) = f0.wear.map nRow := List.take_of_length_le (by simp)
  have zm : List.take f0.map.length (f0.map.map nRow) = f0.map.map nRow := List.take_of_length_le (by simp)
  refine vw_go rfl ?_; simp only [go_sem,setCells,setIn]
  refine vw_go rfl ?_; simp only [go_sem,setCells,setIn]
  refine ⟨_, _, call_rx [] Tryz.func64 (rN) rfl rfl rfl rfl rfl rfl rfl (by simp [lendAll,lendC,seek,fresh,nav,rcells,RT.cells,VV.cells,tabE_cons,tabS_cons,ev,take_map_len,sRow_r1,sRow_comp,sRow_clean,nRow_r1,nRow_comp,nRow_clean,actRow_r1,actRow_clean]) rfl (by simp [rcells,RT.cells,CT.clean,T.clean,sRow_r1,sRow_comp,sRow_clean,nRow_r1,nRow_comp,nRow_clean,actRow_r1,actRow_clean]) rfl rfl, ?_⟩
  simp only [runH,runX,np,nw,go_sem,setCells,setIn]
  refine ⟨_, _, call_rx [0] Tryz.func50 (rM) rfl rfl rfl rfl rfl rfl rfl (by simp [lendAll,lendC,seek,fresh,nav,rcells,RT.cells,VV.cells,tabE_cons,tabS_cons,ev,take_map_len,sRow_r1,sRow_comp,sRow_clean,nRow_r1,nRow_comp,nRow_clean,actRow_r1,actRow_clean,np,nw]) rfl (by simp [rcells,RT.cells,CT.clean,T.clean,sRow_r1,sRow_comp,sRow_clean,nRow_r1,nRow_comp,nRow_clean,actRow_r1,actRow_clean,np,nw]) rfl rfl, ?_⟩
  simp only [runH,runX,zp,zw,zm,List.drop_length,go_sem,setCells,setIn]
  refine vw_go rfl ?_; simp only [go_sem,setCells,setIn]
  refine ⟨_, _, call_pt [0, 0] 0 Tryz.func21 (rB) rfl rfl rfl rfl rfl rfl rfl rfl (by simp [lendAll,lendC,seek,fresh,nav,rcells,RT.cells,VV.cells,tabE_cons,tabS_cons,St.put,ev,lit,take_map_len]) rfl rfl (by simp [rcells,RT.cells,CT.fine,T.fine]) (by exact ⟨.inr ⟨0, _, _, rfl, .head _, .head _⟩, trivial, trivial, trivial⟩) rfl rfl, ?_⟩
  simp only [runH,runX,go_sem,setCells,setIn]
  refine vw_seq ?_
  refine vw_go rfl ?_; simp only [go_sem,setCells,setIn]
  refine vw_block ?_
  refine vw_loop_tab (α := Nat × Nat × Cur × FtlV × List Path × List Path) (fun x => x.1) (fun x => ⟨tabE [(0, .ptr 0 [] 0 0 0), (2, .ptr 1 [] 0 0 0), (3, .ptr 2 [] 0 0 0), (4, .c (.int .i64 N)), (5, .c (.int .i64 x.2.1))],
      tabS [(0, some ⟨true, 3, [[.held v 1 (L.map bRow), .int .i64 x.2.2.1.i, .int .i64 x.2.2.1.h]], x.2.2.2.2.1⟩), (1, some ⟨true, 4, [[.list true 1 [], .list true 1 [], .list true 1 [], .int .i64 0]], []⟩),
        (2, some ⟨true, 4, [[.list true 1 (x.2.2.2.1.pages.map sRow), .list true 1 (x.2.2.2.1.wear.map nRow), .list true 1 (x.2.2.2.1.map.map nRow), .int .i64 x.2.2.2.1.seq]], x.2.2.2.2.2⟩)], 3⟩)
    (fun x => x.1 + x.2.1 = N ∧ rightG L x.1 x.2.2.1 x.2.2.2.1 = (f, C) ∧ FGood x.2.2.2.1) (x := (N, 0, c1, f0, [[]], [[(0, 0)], [(0, 1)], [(0, 2)]])) ?round ?h0 ?hn
  case h0 => exact ⟨rfl, hC.symm, hg0⟩
  case hn =>
    refine norm_to [(0, 0), (1, 1), (67585, 2)] rfl ?_ ?_ <;> simp only [go_sem]
  rintro ⟨n, i, d, g, lg, lf⟩ ⟨hn, hg, hf⟩
  simp only at hn hg hf
  have gp : List.take g.pages.length (g.pages.map sRow) = g.pages.map sRow := List.take_of_length_le (by simp)
  have gw : List.take g.wear.length (g.wear.map nRow) = g.wear.map nRow := List.take_of_length_le (by simp)
  have gm : List.take g.map.length (g.map.map nRow) = g.map.map nRow := List.take_of_length_le (by simp)
  refine vw_seq ?_
  by_cases hc : (i : Int) < N
  case neg =>
    obtain rfl : n = 0 := by omega
    rw [rightG] at hg
    obtain ⟨rfl, rfl⟩ := hg
    refine vw_go rfl ?_; simp only [hc,go_sem,setCells,setIn]
    refine vw_cond (t := false) rfl (fun h => nomatch h) (fun _ => ?_)
    refine vw_exit (x_then (x_then (x_block (n_then ?_))))
    refine vw_go rfl ?_; simp only [gp,gw,gm,List.drop_length,go_sem,setCells,setIn]
    exact vw_ret (e_ret (ret_b rfl rfl (by simp [RB]) rfl (by simp only [takeCs,takeC,gp,gw,gm,List.drop_length,go_sem,setCells,setIn]; rfl) (by exact ⟨⟨by simp, _, rfl, rfl, rfl, rfl⟩, trivial⟩)))
  obtain ⟨m, rfl⟩ : ∃ m, n = m + 1 := ⟨n - 1, by omega⟩
  rw [rightG] at hg
  have rS := runs_21 v L hL d 26 (by decide) (by decide)
  have rO := runs_27 v L hL (byteC L d) 2 (by decide) (by decide)
  have rP := runs_29 v L hL (byteC L (byteC L d)) wordL (by decide) (by decide)
  change Runs _ _ _ [.one (.v (.str (wordV L d)))] _ at rP
  have hsz : (wordV L d).size ≤ 10 := by
    have h0 : ∀ x ∈ wordL, x.size ≤ 10 := by decide
    exact h0 _ (pickV_mem L _ _ (by decide))
  have hsb := belV_in L d (n := 26) (by decide)
  have hsv : secV L d = if belV L (byteC L d) 2 = 0 then belV L d 26 % 4 else belV L d 26 := rfl
  have rL := runs_65 g hf.shape (secV L d) (wordV L d) _ rfl
  obtain ⟨p1, p2⟩ := planF_shape hf (secV L d) (wordV L d)
  have p3 := planF_acts g (secV L d) (wordV L d)
  generalize planF g (secV L d) (wordV L d) = D at rL p1 p2 p3 hg
  generalize wordV L d = wd at rP rL
  generalize secV L d = sv at rL hsv
  generalize belV L d 26 = s0 at rS hsb hsv
  generalize belV L (byteC L d) 2 = o0 at rO hsv
  unfold c3 at hg
  generalize hd3 : byteC L (byteC L (byteC L d)) = d3 at rP hg
  have w1 : IntKind.wrap .i64 ((i:Int) + 1) = ((i + 1 : Nat) : Int) := by rw [wrap_i64 (by omega) (by omega)]; rfl
  have e4 : Int.tmod s0 4 = s0 % 4 := Int.tmod_eq_emod_of_nonneg (by omega)
  have v4 : IntKind.wrap .i64 (s0 % 4) = s0 % 4 := wrap_i64 (by omega) (by omega)
  refine vw_go rfl ?_; simp only [hc,go_sem,setCells,setIn]
  refine vw_cond (t := true) rfl (fun _ => ?_) (fun h => nomatch h)
  refine vw_skip (n_then ?_)
  refine vw_seq ?_
  refine vw_block ?_
  refine vw_go rfl ?_; simp only [go_sem,setCells,setIn]
  refine ⟨_, _, call_pt [0, 0] 0 Tryz.func21 (rS) rfl rfl rfl rfl rfl rfl rfl rfl (by simp [lendAll,lendC,seek,fresh,nav,rcells,RT.cells,VV.cells,tabE_cons,tabS_cons,St.put,ev,lit,take_map_len]) rfl rfl (by simp [rcells,RT.cells,CT.fine,T.fine]) (by exact ⟨.inr ⟨0, _, _, rfl, .head _, .head _⟩, trivial, trivial, trivial⟩) rfl rfl, ?_⟩
  simp only [runH,runX,go_sem,setCells,setIn]
  refine vw_join (α := Unit) (fun _ => ⟨tabE [(0, .ptr 0 [] 0 0 0), (2, .ptr 1 [] 0 0 0), (3, .ptr 2 [] 0 0 0), (4, .c (.int .i64 N)), (5, .c (.int .i64 i)), (6, .c (.int .i64 sv))],
      tabS [(0, some ⟨true, 3, [[.held v 1 (L.map bRow), .int .i64 (byteC L (byteC L d)).i, .int .i64 (byteC L (byteC L d)).h]], lg ++ [[]] ++ [[]]⟩), (1, some ⟨true, 4, [[.list true 1 [], .list true 1 [], .list true 1 [], .int .i64 0]], []⟩),
        (2, some ⟨true, 4, [[.list true 1 (g.pages.map sRow), .list true 1 (g.wear.map nRow), .list true 1 (g.map.map nRow), .int .i64 g.seq]], lf⟩)], 3⟩)
    (fun _ => True) ?_ ?_
  · (refine vw_go rfl ?_; simp only [go_sem,setCells,setIn])
    refine ⟨_, _, call_pt [0, 0] 0 Tryz.func27 (rO) rfl rfl rfl rfl rfl rfl rfl rfl (by simp [lendAll,lendC,seek,fresh,nav,rcells,RT.cells,VV.cells,tabE_cons,tabS_cons,St.put,ev,lit,take_map_len]) rfl rfl (by simp [rcells,RT.cells,CT.fine,T.fine]) (by exact ⟨.inr ⟨0, _, _, rfl, .head _, .head _⟩, trivial, trivial, trivial⟩) rfl rfl, ?_⟩
    simp only [runH,runX,go_sem,setCells,setIn]
    by_cases h0 : o0 = 0
    · rw [if_pos h0] at hsv
      subst hsv
      refine vw_cond (t := true) (by simp [ev,tabE_cons,h0]) (fun _ => ?_) (fun h => nomatch h)
      refine vw_last rfl ?_; simp only [e4,v4,go_sem,setCells,setIn]
      refine (n_then ⟨(), ?_⟩)
      refine norm_to [(0, 0), (1, 1), (2, 2)] rfl ?_ ?_ <;> simp only [go_sem]
    · rw [if_neg h0] at hsv
      subst hsv
      refine vw_cond (t := false) (by simp [ev,tabE_cons,h0]) (fun h => nomatch h) (fun _ => ?_)
      refine vw_skip (n_then ⟨(), ?_⟩)
      refine norm_to [(0, 0), (1, 1), (2, 2)] rfl ?_ ?_ <;> simp only [go_sem]
  intro _ _
  refine vw_drawA mixed rfl rfl ?_; intro A hAA
  simp (maxSteps := 1000000) only [gp, gw, gm, range1, List.replicate_succ, List.replicate_zero, List.flatten_cons, List.flatten_nil, List.range_zero, gt_iff_lt, List.drop_length, go_sem, setCells, setIn, runW_step]
  refine ⟨_, _, _, call_pt_at [0, 0] 0 [3075] Tryz.func29 (rP) rfl rfl rfl rfl rfl rfl rfl rfl (fun st1 hst1 => by (try simp only [List.mem_cons,List.not_mem_nil,or_false,false_or,forall_eq_or_imp,forall_eq] at hst1); simp [lendAll,lendC,seek,fresh,nav,rcells,RT.cells,VV.cells,tabE_cons,tabS_cons,St.put,ev,lit,take_map_len,hst1,sRow,wordL]) rfl rfl (fun st1 hst1 => by simp [rcells,RT.cells,CT.fine,T.fine,sRow,wordL]) (fun st1 hst1 => by exact ⟨.inr ⟨0, _, _, (hst1 _ (.head _)).trans rfl, .head _, .head _⟩, trivial, trivial, trivial⟩) rfl rfl, ?_⟩
  have Dp : List.take D.2.1.pages.length (D.2.1.pages.map sRow) = D.2.1.pages.map sRow := List.take_of_length_le (by simp)
  have Dw : List.take D.2.1.wear.length (D.2.1.wear.map nRow) = D.2.1.wear.map nRow := List.take_of_length_le (by simp)
  have Dm : List.take D.2.1.map.length (D.2.1.map.map nRow) = D.2.1.map.map nRow := List.take_of_length_le (by simp)
  have Da : List.take D.1.length (D.1.map actRow) = D.1.map actRow := List.take_of_length_le (by simp)
  (unfold runX; simp (maxSteps := 1000000) only [gp, gw, gm, List.drop_length, go_sem, setCells, setIn, runW_step])
  refine ⟨_, _, _, call_rx_at [0, 0, 0] [2] Tryz.func65 (rL) rfl rfl rfl rfl rfl rfl rfl (fun st1 hst1 => by (try simp only [List.mem_cons,List.not_mem_nil,or_false,false_or,forall_eq_or_imp,forall_eq] at hst1); simp [lendAll,lendC,seek,fresh,nav,rcells,RT.cells,VV.cells,tabE_cons,tabS_cons,ev,take_map_len,hst1,sRow_r1,sRow_comp,sRow_clean,nRow_r1,nRow_comp,nRow_clean,actRow_r1,actRow_clean,gp,gw,gm,List.drop_length]) rfl (by simp [rcells,RT.cells,CT.clean,T.clean,sRow_r1,sRow_comp,sRow_clean,nRow_r1,nRow_comp,nRow_clean,actRow_r1,actRow_clean,gp,gw,gm,List.drop_length]) rfl rfl, ?_⟩
  (unfold runX; simp (maxSteps := 1000000) only [Dp, Dw, Dm, Da, List.drop_length, go_sem, setCells, setIn, runW_step])
  refine ⟨by subst hAA; unfold allOk; kernel_rfl, ?_⟩
  refine vw_seq ?_
  cases hok : D.2.2
  case false =>
    rw [if_pos hok] at hg
    simp only [Prod.mk.injEq] at hg
    obtain ⟨rfl, rfl⟩ := hg
    refine vw_go rfl ?_; simp only [hok,go_sem,setCells,setIn]
    refine vw_cond (t := true) rfl (fun _ => ?_) (fun h => nomatch h)
    refine vw_go rfl ?_; simp only [gp,gw,gm,List.drop_length,go_sem,setCells,setIn]
    refine vw_ret ?_
    repeat (first | refine r_then ?_ | refine r_block ?_)
    exact e_ret (ret_b rfl rfl (by simp [RB]) rfl (by simp only [takeCs,takeC,gp,gw,gm,List.drop_length,go_sem,setCells,setIn]; rfl) (by exact ⟨⟨by simp, _, rfl, rfl, rfl, rfl⟩, trivial⟩))
  rw [if_neg (by rw [hok]; simp)] at hg
  have rQ := runs_27 v L hL d3 12 (by decide) (by decide)
  refine vw_go rfl ?_; simp only [hok,go_sem,setCells,setIn]
  refine vw_cond (t := false) rfl (fun h => nomatch h) (fun _ => ?_)
  refine vw_skip (n_then ?_)
  refine vw_go rfl ?_; simp only [go_sem,setCells,setIn]
  refine ⟨_, _, call_pt [0, 0] 0 Tryz.func27 (rQ) rfl rfl rfl rfl rfl rfl rfl rfl (by simp [lendAll,lendC,seek,fresh,nav,rcells,RT.cells,VV.cells,tabE_cons,tabS_cons,St.put,ev,lit,take_map_len]) rfl rfl (by simp [rcells,RT.cells,CT.fine,T.fine]) (by exact ⟨.inr ⟨0, _, _, rfl, .head _, .head _⟩, trivial, trivial, trivial⟩) rfl rfl, ?_⟩
  simp only [runH,runX,go_sem,setCells,setIn]
  by_cases h0 : belV L d3 12 = 0
  case neg =>
    rw [if_neg h0] at hg
    refine vw_cond (t := false) (by simp [ev,tabE_cons,h0]) (fun h => nomatch h) (fun _ => ?_)
    refine vw_last rfl ?_; simp only [Dp,Dw,Dm,List.drop_length,go_sem,setCells,setIn]
    refine (n_block (n_then ?_))
    refine vw_last rfl ?_; simp only [w1,go_sem,setCells,setIn]
    refine (n_then ?_)
    refine ⟨(m, i + 1, byteC L d3, D.2.1, lg ++ [[]] ++ [[]] ++ [[]] ++ [[]], lf ++ [[(0, 0)], [(0, 1)], [(0, 2)]]), by simp only; omega, ⟨by simp only; omega, hg, p2 hok⟩, ?_⟩
    refine norm_to [(0, 0), (1, 1), (2, 2)] rfl ?_ ?_ <;> simp only [go_sem]
  rw [if_pos h0] at hg
  have hcok := shape_chip hf.shape
  have rK := runs_21 v L hL (byteC L d3) (D.1.length + 1) (by omega) (by omega)
  have hKb := belV_in L (byteC L d3) (n := D.1.length + 1) (by omega)
  have rJ := runs_21 v L hL (byteC L (byteC L d3)) 9 (by decide) (by decide)
  have hJb := belV_in L (byteC L (byteC L d3)) (n := 9) (by decide)
  generalize belV L (byteC L d3) (D.1.length + 1) = kk at rK hKb hg
  generalize belV L (byteC L (byteC L d3)) 9 = jj at rJ hJb hg
  obtain ⟨K, rfl⟩ : ∃ K : Nat, kk = K := ⟨kk.toNat, by omega⟩
  obtain ⟨J, rfl⟩ : ∃ J : Nat, jj = J := ⟨jj.toNat, by omega⟩
  rw [Int.toNat_natCast, Int.toNat_natCast] at hg
  have rCu := runs_66 g.pages g.wear hcok D.1 (by omega) (fun a ha => Nat.le_trans (p3 a ha) (by decide)) K J (by omega) (by omega) _ rfl
  have hCu := cutC_ok hcok D.1 K J
  generalize cutC g.pages g.wear D.1 K J = X at rCu hCu hg
  obtain ⟨xl, xs, xwl, xwb⟩ := chipOk_parts hCu
  have rMo := runs_50 X.1 X.2 (by rw [xl]; decide) (by rw [xwl]; decide) (fun s h => Nat.lt_of_le_of_lt (xs s h) (by decide)) _ rfl
  have hMo := mountC_good hCu
  generalize mountC X.1 X.2 = Z at rMo hMo hg
  have xp : List.take X.1.length (X.1.map sRow) = X.1.map sRow := List.take_of_length_le (by simp)
  have xw : List.take X.2.length (X.2.map nRow) = X.2.map nRow := List.take_of_length_le (by simp)
  have yp : List.take Z.pages.length (Z.pages.map sRow) = Z.pages.map sRow := List.take_of_length_le (by simp)
  have yw : List.take Z.wear.length (Z.wear.map nRow) = Z.wear.map nRow := List.take_of_length_le (by simp)
  have ym : List.take Z.map.length (Z.map.map nRow) = Z.map.map nRow := List.take_of_length_le (by simp)
  have w2 : IntKind.wrap .i64 ((D.1.length : Int) + 1) = ((D.1.length + 1 : Nat) : Int) := by rw [wrap_i64 (by omega) (by omega)]; rfl
  refine vw_cond (t := true) (by simp [ev,tabE_cons,h0]) (fun _ => ?_) (fun h => nomatch h)
  refine vw_drawA_last mixed rfl rfl ?_; intro A hAA
  simp (maxSteps := 1000000) only [gp, gw, Da, w2, List.length_map, List.drop_length, go_sem, setCells, setIn, runW_step]
  refine ⟨_, _, _, call_pt_at [0, 0] 0 [] Tryz.func21 (rK) rfl rfl rfl rfl rfl rfl rfl rfl (fun st1 hst1 => by (try simp only [List.mem_cons,List.not_mem_nil,or_false,false_or,forall_eq_or_imp,forall_eq] at hst1); simp [lendAll,lendC,seek,fresh,nav,rcells,RT.cells,VV.cells,tabE_cons,tabS_cons,St.put,ev,lit,take_map_len,hst1]) rfl rfl (fun st1 hst1 => by simp [rcells,RT.cells,CT.fine,T.fine]) (fun st1 hst1 => by exact ⟨.inr ⟨0, _, _, (hst1 _ (.head _)).trans rfl, .head _, .head _⟩, trivial, trivial, trivial⟩) rfl rfl, ?_⟩
  (unfold runX; simp (maxSteps := 1000000) only [gp, gw, Da, w2, List.length_map, List.drop_length, go_sem, setCells, setIn, runW_step])
  refine ⟨_, _, _, call_pt_at [0, 0] 0 [] Tryz.func21 (rJ) rfl rfl rfl rfl rfl rfl rfl rfl (fun st1 hst1 => by (try simp only [List.mem_cons,List.not_mem_nil,or_false,false_or,forall_eq_or_imp,forall_eq] at hst1); simp [lendAll,lendC,seek,fresh,nav,rcells,RT.cells,VV.cells,tabE_cons,tabS_cons,St.put,ev,lit,take_map_len,hst1]) rfl rfl (fun st1 hst1 => by simp [rcells,RT.cells,CT.fine,T.fine]) (fun st1 hst1 => by exact ⟨.inr ⟨0, _, _, (hst1 _ (.head _)).trans rfl, .head _, .head _⟩, trivial, trivial, trivial⟩) rfl rfl, ?_⟩
  (unfold runX; simp (maxSteps := 1000000) only [gp, gw, Da, w2, List.length_map, List.drop_length, go_sem, setCells, setIn, runW_step])
  refine ⟨_, _, _, call_rx_at [0, 0, 0, 0] [2, 5123] Tryz.func66 (rCu) rfl rfl rfl rfl rfl rfl rfl (fun st1 hst1 => by (try simp only [List.mem_cons,List.not_mem_nil,or_false,false_or,forall_eq_or_imp,forall_eq] at hst1); simp [lendAll,lendC,seek,fresh,nav,rcells,RT.cells,VV.cells,tabE_cons,tabS_cons,ev,take_map_len,hst1,sRow_r1,sRow_comp,sRow_clean,nRow_r1,nRow_comp,nRow_clean,actRow_r1,actRow_clean,gp,gw,Da,List.drop_length]) rfl (by simp [rcells,RT.cells,CT.clean,T.clean,sRow_r1,sRow_comp,sRow_clean,nRow_r1,nRow_comp,nRow_clean,actRow_r1,actRow_clean,gp,gw,Da,List.drop_length]) rfl rfl, ?_⟩
  (unfold runX; simp (maxSteps := 1000000) only [xp, xw, List.drop_length, go_sem, setCells, setIn, runW_step])
  refine ⟨_, _, _, call_rx_at [0] [206851, 206852] Tryz.func50 (rMo) rfl rfl rfl rfl rfl rfl rfl (fun st1 hst1 => by (try simp only [List.mem_cons,List.not_mem_nil,or_false,false_or,forall_eq_or_imp,forall_eq] at hst1); simp [lendAll,lendC,seek,fresh,nav,rcells,RT.cells,VV.cells,tabE_cons,tabS_cons,ev,take_map_len,hst1,sRow_r1,sRow_comp,sRow_clean,nRow_r1,nRow_comp,nRow_clean,actRow_r1,actRow_clean,xp,xw,List.drop_length]) rfl (by simp [rcells,RT.cells,CT.clean,T.clean,sRow_r1,sRow_comp,sRow_clean,nRow_r1,nRow_comp,nRow_clean,actRow_r1,actRow_clean,xp,xw,List.drop_length]) rfl rfl, ?_⟩
  (unfold runX; simp (maxSteps := 1000000) only [yp, yw, ym, List.drop_length, go_sem, setCells, setIn, runW_step])
  refine ⟨by subst hAA; unfold allOk; kernel_rfl, ?_⟩
  refine (n_block (n_then ?_))
  refine vw_last rfl ?_; simp only [w1,go_sem,setCells,setIn]
  refine (n_then ?_)
  refine ⟨(m, i + 1, byteC L (byteC L (byteC L d3)), Z, lg ++ [[]] ++ [[]] ++ [[]] ++ [[]] ++ [[]] ++ [[]], lf ++ [[(0, 0)], [(0, 1)], [(0, 2)]]), by simp only; omega, ⟨by simp only; omega, hg, hMo⟩, ?_⟩
  refine norm_to [(0, 0), (1, 1), (2, 2)] rfl ?_ ?_ <;> simp only [go_sem]
end Go.Proofs.YtkijdbljnefeaaaGreatDoor
