/- OpRead of both, and its law. Plain law: the letters of a chip's text; what OpRead tells. -/
import Derived.Test.YtkijdbljnefeaaaGreatDoorPFWords
import Derived.Test.YtkijdbljnefeaaaGreatDoorPFOp
import Derived.Test.YtkijdbljnefeaaaGreatDoorPFItem
import Derived.Test.YtkijdbljnefeaaaGreatDoorPFShow
import Derived.Test.YtkijdbljnefeaaaGreatDoorPFWorkD
set_option linter.unusedSimpArgs false
set_option linter.unusedVariables false
namespace Go.Proofs.YtkijdbljnefeaaaGreatDoor
open Go.VM Go
set_option maxRecDepth 100000
attribute [local congr] vw_congr runV_congr runH_congr runW_congr runX_congr stuckV_congr stuckX_congr
def zOpV : OpV := ⟨0, ⟨#[]⟩, ⟨#[]⟩, ⟨#[]⟩⟩
def opReadG (K : Int) (ok more : Bool) (p : ByteArray × Bool) (b : ByteArray) (t : ByteArray × Bool) : OpV × Bool :=
  if K = 0 then (zOpV, false)
  else if K = 3 then (if (ok && (p.2 && (more && decide ((b.size : Int) ≤ 60)))) = true then (⟨3, p.1, ⟨#[]⟩, b⟩, true) else (zOpV, false))
  else if K = 6 then (if (ok && (p.2 && (more && t.2))) = true then (⟨6, p.1, t.1, ⟨#[]⟩⟩, true) else (zOpV, false))
  else if (ok && (p.2 && !more)) = true then (⟨K, p.1, ⟨#[]⟩, ⟨#[]⟩⟩, true) else (zOpV, false)
def opReadF (s : ByteArray) : OpV × Bool :=
  opReadG (kindOf (cutS s).1) (cutS s).2.2 (cutS (cutS s).2.1).2.2 (pathRd (cutS (cutS s).2.1).1) (cutS (cutS s).2.1).2.1 (pathRd (cutS (cutS s).2.1).2.1)
theorem runs_15 (s : ByteArray) (hs : s.size ≤ 2 ^ 20) (X : OpV × Bool) (hX : X = opReadF s) : Runs Tryz.prog 15 [.one (.v (.str s))] [.agg [.v (.int .i64 X.1.kind), .v (.str X.1.path), .v (.str X.1.to), .v (.str X.1.data)], .one (.v (.bool X.2))] [] := by
  refine runs_tab (tab := [(0, .c (.str s))]) (rts := []) (n := 85) (k := 1) Tryz.func15 rfl rfl (by simp) rfl (fun t => ?_) rfl ?_
  · rcases t with _ | t <;> rfl
  have z1 := (cutS_size s).2
  have z2 := cutS_size (cutS s).2.1
  have rC := runs_30 s hs
  have rD := runs_30 (cutS s).2.1 (by omega)
  have rP := runs_32 (cutS (cutS s).2.1).1 (by omega)
  have rT := runs_32 (cutS (cutS s).2.1).2.1 (by omega)
  have rK := runs_31 (cutS s).1
  unfold opReadF at hX
  generalize pathRd (cutS (cutS s).2.1).1 = p at rP hX
  generalize pathRd (cutS (cutS s).2.1).2.1 = q at rT hX
  generalize cutS (cutS s).2.1 = d at rD rP rT hX
  generalize cutS s = c at rC rD rK hX
  generalize kindOf c.1 = K at rK hX
  obtain ⟨w, rest, ok⟩ := c
  obtain ⟨f, b, more⟩ := d
  obtain ⟨pp, pg⟩ := p
  obtain ⟨tt, tg⟩ := q
  simp only at rC rD rK rP rT hX
  refine vw_go rfl ?_; simp only [go_sem,setCells,setIn]
  refine vw_go rfl ?_; simp only [go_sem,setCells,setIn]
  refine ⟨_, _, call_rd [0, 0] Tryz.func30 (rC) rfl rfl rfl rfl rfl rfl rfl rfl rfl rfl rfl rfl rfl, ?_⟩
  simp only [runH,runX,go_sem,setCells,setIn]
  refine vw_go rfl ?_; simp only [go_sem,setCells,setIn]
  refine ⟨_, _, call_rd [0] Tryz.func31 (rK) rfl rfl rfl rfl rfl rfl rfl rfl rfl rfl rfl rfl rfl, ?_⟩
  simp only [runH,runX,go_sem,setCells,setIn]
  refine vw_go rfl ?_; simp only [go_sem,setCells,setIn]
  refine ⟨_, _, call_rd [0, 0] Tryz.func30 (rD) rfl rfl rfl rfl rfl rfl rfl rfl rfl rfl rfl rfl rfl, ?_⟩
  simp only [runH,runX,go_sem,setCells,setIn]
  refine vw_go rfl ?_; simp only [go_sem,setCells,setIn]
  refine ⟨_, _, call_rd [0] Tryz.func32 (rP) rfl rfl rfl rfl rfl rfl rfl rfl rfl rfl rfl rfl rfl, ?_⟩
  simp only [runH,runX,go_sem,setCells,setIn]
  refine vw_go rfl ?_; simp only [go_sem,setCells,setIn]
  refine vw_seq ?_
  refine vw_go rfl ?_; simp only [go_sem,setCells,setIn]
  refine vw_block ?_
  by_cases h0 : K = 0
  · subst h0
    refine vw_go rfl ?_; simp only [go_sem,setCells,setIn]
    refine vw_cond (t := true) rfl (fun _ => ?_) (fun h => nomatch h)
    refine vw_go rfl ?_; simp only [go_sem,setCells,setIn]
    obtain rfl : X = (zOpV, false) := by rw [hX]; rfl
    exact vw_ret (r_block (r_then (e_ret (ret_of rfl rfl (by simp [RB]) rfl rfl))))
  refine vw_go rfl ?_; simp only [h0,go_sem,setCells,setIn]
  refine vw_cond (t := false) rfl (fun h => nomatch h) (fun _ => ?_)
  by_cases h3 : K = 3
  · subst h3
    refine vw_go rfl ?_; simp only [go_sem,setCells,setIn]
    refine vw_cond (t := true) rfl (fun _ => ?_) (fun h => nomatch h)
    by_cases h60 : (60:Int) < b.size
    · have h61 : ¬ (b.size : Int) ≤ 60 := by omega
      obtain rfl : X = (zOpV, false) := by rw [hX]; simp [opReadG,h61]
      cases ok <;> cases pg <;> cases more <;>
       ((try (refine vw_go rfl ?_; simp only [go_sem,setCells,setIn]))
        (try (refine vw_last rfl ?_; simp only [go_sem,setCells,setIn]))
        refine (n_block (n_then ?_))
        refine vw_seq ?_
        refine vw_go rfl ?_; simp only [h60,go_sem,setCells,setIn]
        refine vw_cond (t := true) rfl (fun _ => ?_) (fun h => nomatch h)
        refine vw_go rfl ?_; simp only [go_sem,setCells,setIn]
        exact vw_ret (r_then (e_ret (ret_of rfl rfl (by simp [RB]) rfl rfl))))
    · have h61 : (b.size : Int) ≤ 60 := by omega
      cases ok <;> cases pg <;> cases more <;>
       ((simp [opReadG,h61] at hX; subst hX)
        (try (refine vw_go rfl ?_; simp only [go_sem,setCells,setIn]))
        (try (refine vw_last rfl ?_; simp only [go_sem,setCells,setIn]))
        refine (n_block (n_then ?_))
        refine vw_seq ?_
        refine vw_go rfl ?_; simp only [h60,go_sem,setCells,setIn]
        first
          | ((refine vw_cond (t := true) rfl (fun _ => ?_) (fun h => nomatch h))
             refine vw_go rfl ?_; simp only [go_sem,setCells,setIn]
             exact vw_ret (r_then (e_ret (ret_of rfl rfl (by simp [RB]) rfl rfl))))
          | ((refine vw_cond (t := false) rfl (fun h => nomatch h) (fun _ => ?_))
             refine vw_skip (n_then ?_)
             refine vw_go rfl ?_; simp only [go_sem,setCells,setIn]
             exact vw_ret (e_ret (ret_of rfl rfl (by simp [RB]) rfl rfl))))
  refine vw_go rfl ?_; simp only [h3,go_sem,setCells,setIn]
  refine vw_cond (t := false) rfl (fun h => nomatch h) (fun _ => ?_)
  have h60 : ¬ (60:Int) < ((0:Nat):Int) := by omega
  have e0 : ByteArray.size ⟨#[]⟩ = 0 := rfl
  by_cases h6 : K = 6
  · subst h6
    refine vw_go rfl ?_; simp only [go_sem,setCells,setIn]
    refine vw_cond (t := true) rfl (fun _ => ?_) (fun h => nomatch h)
    refine vw_go rfl ?_; simp only [go_sem,setCells,setIn]
    refine ⟨_, _, call_rd [0] Tryz.func32 (rT) rfl rfl rfl rfl rfl rfl rfl rfl rfl rfl rfl rfl rfl, ?_⟩
    simp only [runH,runX,go_sem,setCells,setIn]
    cases ok <;> cases pg <;> cases more <;> cases tg <;>
     ((simp [opReadG,h60] at hX; subst hX)
      refine vw_go rfl ?_; simp only [go_sem,setCells,setIn]
      refine vw_last rfl ?_; simp only [go_sem,setCells,setIn]
      refine (n_block (n_then ?_))
      refine vw_seq ?_
      refine vw_go rfl ?_; simp only [h60,e0,go_sem,setCells,setIn]
      first
        | ((refine vw_cond (t := true) rfl (fun _ => ?_) (fun h => nomatch h))
           refine vw_go rfl ?_; simp only [go_sem,setCells,setIn]
           exact vw_ret (r_then (e_ret (ret_of rfl rfl (by simp [RB]) rfl rfl))))
        | ((refine vw_cond (t := false) rfl (fun h => nomatch h) (fun _ => ?_))
           refine vw_skip (n_then ?_)
           refine vw_go rfl ?_; simp only [go_sem,setCells,setIn]
           exact vw_ret (e_ret (ret_of rfl rfl (by simp [RB]) rfl rfl))))
  refine vw_go rfl ?_; simp only [h6,go_sem,setCells,setIn]
  refine vw_cond (t := false) rfl (fun h => nomatch h) (fun _ => ?_)
  cases ok <;> cases pg <;> cases more <;>
   ((simp [opReadG,h60,h0,h3,h6] at hX; subst hX)
    refine vw_last rfl ?_; simp only [go_sem,setCells,setIn]
    refine (n_block (n_then ?_))
    refine vw_seq ?_
    refine vw_go rfl ?_; simp only [h60,e0,go_sem,setCells,setIn]
    first
      | ((refine vw_cond (t := true) rfl (fun _ => ?_) (fun h => nomatch h))
         refine vw_go rfl ?_; simp only [go_sem,setCells,setIn]
         exact vw_ret (r_then (e_ret (ret_of rfl rfl (by simp [RB]) rfl rfl))))
      | ((refine vw_cond (t := false) rfl (fun h => nomatch h) (fun _ => ?_))
         refine vw_skip (n_then ?_)
         refine vw_go rfl ?_; simp only [go_sem,setCells,setIn]
         exact vw_ret (e_ret (ret_of rfl rfl (by simp [RB]) rfl rfl))))
theorem runs_16 (s : ByteArray) (hs : s.size ≤ 2 ^ 20) (X : OpV × Bool) (hX : X = opReadF s) : Runs Tryz.prog 16 [.one (.v (.str s))] [.agg [.v (.int .i64 X.1.kind), .v (.str X.1.path), .v (.str X.1.to), .v (.str X.1.data)], .one (.v (.bool X.2))] [] := by
  refine runs_tab (tab := [(0, .c (.str s))]) (rts := []) (n := 94) (k := 1) Tryz.func16 rfl rfl (by simp) rfl (fun t => ?_) rfl ?_
  · rcases t with _ | t <;> rfl
  have z1 := (cutS_size s).2
  have z2 := cutS_size (cutS s).2.1
  have rP := runs_34 (cutS (cutS s).2.1).1 (by omega)
  have rT := runs_34 (cutS (cutS s).2.1).2.1 (by omega)
  have rW : Runs Tryz.prog 33 [.one (.v (.str s)), .one (.v (.int .i64 3))] _ [] := runs_33 s 2 (by omega) hs
  rw [words3] at rW
  have hK := kindAt_of (cutS s).1
  unfold opReadF at hX
  generalize pathRd (cutS (cutS s).2.1).1 = p at rP hX
  generalize pathRd (cutS (cutS s).2.1).2.1 = q at rT hX
  generalize cutS (cutS s).2.1 = d at rW rP rT hX
  generalize cutS s = c at rW hK hX
  generalize kindOf c.1 = K at hK hX
  obtain ⟨w, rest, ok⟩ := c
  obtain ⟨f, b, more⟩ := d
  obtain ⟨pp, pg⟩ := p
  obtain ⟨tt, tg⟩ := q
  simp only at rW hK rP rT hX
  obtain ⟨W, hW, rW⟩ : ∃ W, (if ok = true then (if more = true then [w, f, b] else [w, f]) else [w]) = w :: W ∧ Runs Tryz.prog 33 [.one (.v (.str s)), .one (.v (.int .i64 3))] [.one (.v (.list true 1 ((w :: W).map sRow)))] [] := by
    cases ok
    · exact ⟨[], rfl, rW⟩
    · cases more
      · exact ⟨[f], rfl, rW⟩
      · exact ⟨[f, b], rfl, rW⟩
  have e8 : opWords.length = 8 := rfl
  refine vw_go rfl ?_; simp only [go_sem,setCells,setIn]
  refine vw_go rfl ?_; simp only [range1,List.replicate_succ,List.replicate_zero,List.flatten_cons,List.flatten_nil,List.range_zero,gt_iff_lt,go_sem,setCells,setIn]
  refine vw_go rfl ?_; simp only [go_sem,setCells,setIn]
  refine ⟨_, _, call_rx [0, 0] Tryz.func33 (rW) rfl rfl rfl rfl rfl rfl rfl (by simp [lendAll,lendC,seek,fresh,nav,rcells,RT.cells,VV.cells,tabE_cons,tabS_cons,ev,take_map_len,sRow_r1,sRow_clean,lit,cleanRs,cleanR,T.clean,sRow]) rfl (by simp [rcells,RT.cells,CT.clean,T.clean,sRow_r1,sRow_clean,lit,cleanRs,cleanR,T.clean,sRow]) rfl rfl, ?_⟩
  simp only [runH,runX,go_sem,setCells,setIn]
  refine vw_go rfl ?_; simp only [go_sem,setCells,setIn]
  refine vw_seq ?_
  refine vw_go rfl ?_; simp only [go_sem,setCells,setIn]
  refine vw_block ?_
  refine vw_loop_tab (α := Nat) (fun x => 8 - x) (fun x => ⟨tabE [(0, .c (.str s)), (2, .ptr 1 [] 0 0 0), (3, .c (.bool false)), (4, .al 2 [] 0 1 0 8), (5, .al 3 [] 0 1 0 (W.length + 1)), (6, .ptr 4 [] 0 0 0), (7, .c (.int .i64 x))], tabS [(1, some ⟨true, 4, [[.int .i64 0, .str ⟨#[]⟩, .str ⟨#[]⟩, .str ⟨#[]⟩]], []⟩), (2, some ⟨false, 1, opWords.map sRow, []⟩), (3, some ⟨false, 1, [.str w] :: W.map sRow, []⟩), (4, some ⟨true, 4, [[.int .i64 (kindAt w x), .str ⟨#[]⟩, .str ⟨#[]⟩, .str ⟨#[]⟩]], []⟩)], 5⟩)
    (fun x => 1 ≤ x ∧ x ≤ 8) (x := 1) ?round ?h0 ?hn
  case h0 => exact ⟨Nat.le_refl _, by omega⟩
  case hn =>
    refine norm_to [(1, 1), (65537, 2), (132097, 3), (197633, 4)] rfl ?_ ?_ <;> simp only [go_sem]
    · rfl
    · simp [opWords,sRow,kindAt]
  rintro i ⟨hi1, hi⟩
  refine vw_seq ?_
  by_cases hc : (i : Int) < 8
  · rcases get_or opWords i with ⟨x, hx, hlt⟩ | ⟨_, hge⟩
    case inr => rw [e8] at hge; omega
    have c1 : (0:Int) ≤ (i:Int) := by omega
    have c0 : (0:Int) < (W.length + 1 : Nat) := by omega
    have w2 : IntKind.wrap .i64 ((i:Int) + 1) = ((i + 1 : Nat) : Int) := by rw [wrap_i64 (by omega) (by omega)]; rfl
    have hc8 : (i : Int) < ((8 : Nat) : Int) := hc
    have hc9 : i < 8 := by omega
    refine vw_go rfl ?_; simp only [hc8,go_sem,setCells,setIn]
    refine vw_cond (t := true) rfl (fun _ => ?_) (fun h => nomatch h)
    refine vw_skip (n_then ?_)
    refine vw_seq ?_
    refine vw_block ?_
    refine vw_draw mixed rfl rfl ?_; simp only [hc8,hc9,c0,c1,e8,hlt,List.length_map,Int.toNat_natCast,getD_map_of hx,sRow,go_sem,setCells,setIn]
    refine ⟨by unfold allOk; kernel_rfl, ?_⟩
    by_cases hy : x = w
    · have hy' : decide (x = w) = true := by simp [hy]
      have hk : kindAt w (i + 1) = (i : Int) := by rw [kindAt, if_pos ⟨hi1, by rw [getD_of hx]; exact hy⟩]
      refine vw_cond (t := true) (by simp [ev,tabE_cons,hy']) (fun h => ?_) (fun h => nomatch h)
      refine vw_last rfl ?_; simp only [go_sem,setCells,setIn]
      refine (n_block (n_then ?_))
      refine vw_last rfl ?_; simp only [w2,go_sem,setCells,setIn]
      refine (n_then ?_)
      refine ⟨i + 1, by omega, ⟨by omega, by omega⟩, ?_⟩
      rw [hk]
      refine norm_to [(1, 1), (2, 2), (3, 3), (4, 4)] rfl ?_ ?_ <;> simp only [go_sem]
    · have hy' : decide (x = w) = false := by simp [hy]
      have hk : kindAt w (i + 1) = kindAt w i := by rw [kindAt, if_neg (fun h => hy (by rw [getD_of hx] at h; exact h.2))]
      refine vw_cond (t := false) (by simp [ev,tabE_cons,hy']) (fun h => nomatch h) (fun h => ?_)
      refine vw_skip (n_block (n_then ?_))
      refine vw_last rfl ?_; simp only [w2,go_sem,setCells,setIn]
      refine (n_then ?_)
      refine ⟨i + 1, by omega, ⟨by omega, by omega⟩, ?_⟩
      rw [hk]
      refine norm_to [(1, 1), (2, 2), (3, 3), (4, 4)] rfl ?_ ?_ <;> simp only [go_sem]
  obtain rfl : i = 8 := by omega
  rw [hK]
  refine vw_go rfl ?_; simp only [Int.lt_irrefl,go_sem,setCells,setIn]
  refine vw_cond (t := false) rfl (fun h => nomatch h) (fun _ => ?_)
  refine vw_exit (x_then (x_then (x_block (n_then ?_))))
  refine vw_go rfl ?_; simp only [go_sem,setCells,setIn]
  refine vw_seq ?_
  have e0 : ByteArray.size ⟨#[]⟩ = 0 := rfl
  by_cases h3 : K = 3
  · subst h3
    refine vw_go rfl ?_; simp only [go_sem,setCells,setIn]
    refine vw_cond (t := true) rfl (fun _ => ?_) (fun h => nomatch h)
    refine vw_last rfl ?_; simp only [go_sem,setCells,setIn]
    refine (n_then ?_)
    refine vw_seq ?_
    cases ok
    case false =>
      obtain rfl : W = [] := by simpa using hW.symm
      simp [opReadG] at hX; subst hX
      refine vw_go rfl ?_; simp only [go_sem,setCells,setIn]
      refine vw_cond (t := true) rfl (fun _ => ?_) (fun h => nomatch h)
      refine vw_go rfl ?_; simp only [go_sem,setCells,setIn]
      exact vw_ret (r_then (e_ret (ret_of rfl rfl (by simp [RB]) rfl rfl)))
    cases more
    case false =>
      obtain rfl : W = [f] := by simpa using hW.symm
      simp [opReadG] at hX; subst hX
      refine vw_go rfl ?_; simp only [go_sem,setCells,setIn]
      refine vw_cond (t := true) rfl (fun _ => ?_) (fun h => nomatch h)
      refine vw_go rfl ?_; simp only [go_sem,setCells,setIn]
      exact vw_ret (r_then (e_ret (ret_of rfl rfl (by simp [RB]) rfl rfl)))
    obtain rfl : W = [f, b] := by simpa using hW.symm
    refine vw_go rfl ?_; simp only [go_sem,setCells,setIn]
    refine vw_cond (t := false) rfl (fun h => nomatch h) (fun _ => ?_)
    refine vw_skip (n_then ?_)
    refine vw_go rfl ?_; simp only [sRow,go_sem,setCells,setIn]
    refine ⟨_, _, call_rd [0] Tryz.func34 (rP) rfl rfl rfl rfl rfl rfl rfl rfl rfl rfl rfl rfl rfl, ?_⟩
    simp only [runH,runX,go_sem,setCells,setIn]
    refine vw_go rfl ?_; simp only [go_sem,setCells,setIn]
    refine vw_seq ?_
    refine vw_go rfl ?_; simp only [go_sem,setCells,setIn]
    refine vw_cond (t := true) rfl (fun _ => ?_) (fun h => nomatch h)
    refine vw_go rfl ?_; simp only [sRow,go_sem,setCells,setIn]
    by_cases h60 : (b.size : Int) ≤ 60
    · cases pg <;>
       ((simp [opReadG,h60] at hX; subst hX)
        refine vw_last rfl ?_; simp only [h60,go_sem,setCells,setIn]
        refine (n_then ?_)
        refine vw_seq ?_
        refine vw_go rfl ?_; simp only [go_sem,setCells,setIn]
        refine vw_cond (t := false) rfl (fun h => nomatch h) (fun _ => ?_)
        refine vw_skip (n_then ?_)
        refine vw_seq ?_
        refine vw_go rfl ?_; simp only [go_sem,setCells,setIn]
        first
          | ((refine vw_cond (t := true) rfl (fun _ => ?_) (fun h => nomatch h))
             refine vw_go rfl ?_; simp only [go_sem,setCells,setIn]
             exact vw_ret (r_then (e_ret (ret_of rfl rfl (by simp [RB]) rfl rfl))))
          | ((refine vw_cond (t := false) rfl (fun h => nomatch h) (fun _ => ?_))
             refine vw_skip (n_then ?_)
             refine vw_go rfl ?_; simp only [go_sem,setCells,setIn]
             exact vw_ret (e_ret (ret_of rfl rfl (by simp [RB]) rfl rfl))))
    · cases pg <;>
       ((simp [opReadG,h60] at hX; subst hX)
        refine vw_last rfl ?_; simp only [h60,go_sem,setCells,setIn]
        refine (n_then ?_)
        refine vw_seq ?_
        refine vw_go rfl ?_; simp only [go_sem,setCells,setIn]
        refine vw_cond (t := false) rfl (fun h => nomatch h) (fun _ => ?_)
        refine vw_skip (n_then ?_)
        refine vw_seq ?_
        refine vw_go rfl ?_; simp only [go_sem,setCells,setIn]
        refine vw_cond (t := true) rfl (fun _ => ?_) (fun h => nomatch h)
        refine vw_go rfl ?_; simp only [go_sem,setCells,setIn]
        exact vw_ret (r_then (e_ret (ret_of rfl rfl (by simp [RB]) rfl rfl))))
  by_cases h6 : K = 6
  · subst h6
    refine vw_go rfl ?_; simp only [go_sem,setCells,setIn]
    refine vw_cond (t := true) rfl (fun _ => ?_) (fun h => nomatch h)
    refine vw_last rfl ?_; simp only [go_sem,setCells,setIn]
    refine (n_then ?_)
    refine vw_seq ?_
    cases ok
    case false =>
      obtain rfl : W = [] := by simpa using hW.symm
      simp [opReadG] at hX; subst hX
      refine vw_go rfl ?_; simp only [go_sem,setCells,setIn]
      refine vw_cond (t := true) rfl (fun _ => ?_) (fun h => nomatch h)
      refine vw_go rfl ?_; simp only [go_sem,setCells,setIn]
      exact vw_ret (r_then (e_ret (ret_of rfl rfl (by simp [RB]) rfl rfl)))
    cases more
    case false =>
      obtain rfl : W = [f] := by simpa using hW.symm
      simp [opReadG] at hX; subst hX
      refine vw_go rfl ?_; simp only [go_sem,setCells,setIn]
      refine vw_cond (t := true) rfl (fun _ => ?_) (fun h => nomatch h)
      refine vw_go rfl ?_; simp only [go_sem,setCells,setIn]
      exact vw_ret (r_then (e_ret (ret_of rfl rfl (by simp [RB]) rfl rfl)))
    obtain rfl : W = [f, b] := by simpa using hW.symm
    refine vw_go rfl ?_; simp only [go_sem,setCells,setIn]
    refine vw_cond (t := false) rfl (fun h => nomatch h) (fun _ => ?_)
    refine vw_skip (n_then ?_)
    refine vw_go rfl ?_; simp only [sRow,go_sem,setCells,setIn]
    refine ⟨_, _, call_rd [0] Tryz.func34 (rP) rfl rfl rfl rfl rfl rfl rfl rfl rfl rfl rfl rfl rfl, ?_⟩
    simp only [runH,runX,go_sem,setCells,setIn]
    refine vw_go rfl ?_; simp only [go_sem,setCells,setIn]
    refine vw_seq ?_
    refine vw_go rfl ?_; simp only [go_sem,setCells,setIn]
    refine vw_cond (t := false) rfl (fun h => nomatch h) (fun _ => ?_)
    refine vw_skip (n_then ?_)
    refine vw_seq ?_
    refine vw_go rfl ?_; simp only [go_sem,setCells,setIn]
    refine vw_cond (t := true) rfl (fun _ => ?_) (fun h => nomatch h)
    refine vw_go rfl ?_; simp only [sRow,go_sem,setCells,setIn]
    refine ⟨_, _, call_rd [0] Tryz.func34 (rT) rfl rfl rfl rfl rfl rfl rfl rfl rfl rfl rfl rfl rfl, ?_⟩
    simp only [runH,runX,go_sem,setCells,setIn]
    refine vw_go rfl ?_; simp only [go_sem,setCells,setIn]
    cases pg <;> cases tg <;>
     ((simp [opReadG] at hX; subst hX)
      refine vw_last rfl ?_; simp only [go_sem,setCells,setIn]
      refine (n_then ?_)
      refine vw_seq ?_
      refine vw_go rfl ?_; simp only [go_sem,setCells,setIn]
      first
        | ((refine vw_cond (t := true) rfl (fun _ => ?_) (fun h => nomatch h))
           refine vw_go rfl ?_; simp only [go_sem,setCells,setIn]
           exact vw_ret (r_then (e_ret (ret_of rfl rfl (by simp [RB]) rfl rfl))))
        | ((refine vw_cond (t := false) rfl (fun h => nomatch h) (fun _ => ?_))
           refine vw_skip (n_then ?_)
           refine vw_go rfl ?_; simp only [go_sem,setCells,setIn]
           exact vw_ret (e_ret (ret_of rfl rfl (by simp [RB]) rfl rfl))))
  refine vw_go rfl ?_; simp only [h3,h6,go_sem,setCells,setIn]
  refine vw_cond (t := false) rfl (fun h => nomatch h) (fun _ => ?_)
  refine vw_skip (n_then ?_)
  refine vw_seq ?_
  by_cases h0 : K = 0
  · subst h0
    refine vw_go rfl ?_; simp only [go_sem,setCells,setIn]
    refine vw_cond (t := true) rfl (fun _ => ?_) (fun h => nomatch h)
    refine vw_go rfl ?_; simp only [go_sem,setCells,setIn]
    simp [opReadG] at hX; subst hX
    exact vw_ret (r_then (e_ret (ret_of rfl rfl (by simp [RB]) rfl rfl)))
  cases ok
  case false =>
    obtain rfl : W = [] := by simpa using hW.symm
    simp [opReadG,h0,h3,h6] at hX; subst hX
    refine vw_go rfl ?_; simp only [h0,go_sem,setCells,setIn]
    refine vw_cond (t := true) rfl (fun _ => ?_) (fun h => nomatch h)
    refine vw_go rfl ?_; simp only [go_sem,setCells,setIn]
    exact vw_ret (r_then (e_ret (ret_of rfl rfl (by simp [RB]) rfl rfl)))
  cases more
  case true =>
    obtain rfl : W = [f, b] := by simpa using hW.symm
    simp [opReadG,h0,h3,h6] at hX; subst hX
    refine vw_go rfl ?_; simp only [h0,go_sem,setCells,setIn]
    refine vw_cond (t := true) rfl (fun _ => ?_) (fun h => nomatch h)
    refine vw_go rfl ?_; simp only [go_sem,setCells,setIn]
    exact vw_ret (r_then (e_ret (ret_of rfl rfl (by simp [RB]) rfl rfl)))
  obtain rfl : W = [f] := by simpa using hW.symm
  refine vw_go rfl ?_; simp only [h0,go_sem,setCells,setIn]
  refine vw_cond (t := false) rfl (fun h => nomatch h) (fun _ => ?_)
  refine vw_skip (n_then ?_)
  refine vw_go rfl ?_; simp only [sRow,go_sem,setCells,setIn]
  refine ⟨_, _, call_rd [0] Tryz.func34 (rP) rfl rfl rfl rfl rfl rfl rfl rfl rfl rfl rfl rfl rfl, ?_⟩
  simp only [runH,runX,go_sem,setCells,setIn]
  refine vw_go rfl ?_; simp only [go_sem,setCells,setIn]
  refine vw_seq ?_
  refine vw_go rfl ?_; simp only [h3,go_sem,setCells,setIn]
  refine vw_cond (t := false) rfl (fun h => nomatch h) (fun _ => ?_)
  refine vw_skip (n_then ?_)
  refine vw_seq ?_
  refine vw_go rfl ?_; simp only [h6,go_sem,setCells,setIn]
  refine vw_cond (t := false) rfl (fun h => nomatch h) (fun _ => ?_)
  refine vw_skip (n_then ?_)
  refine vw_seq ?_
  cases pg <;>
   ((simp [opReadG,h0,h3,h6] at hX; subst hX)
    refine vw_go rfl ?_; simp only [go_sem,setCells,setIn]
    first
      | ((refine vw_cond (t := true) rfl (fun _ => ?_) (fun h => nomatch h))
         refine vw_go rfl ?_; simp only [go_sem,setCells,setIn]
         exact vw_ret (r_then (e_ret (ret_of rfl rfl (by simp [RB]) rfl rfl))))
      | ((refine vw_cond (t := false) rfl (fun h => nomatch h) (fun _ => ?_))
         refine vw_skip (n_then ?_)
         refine vw_go rfl ?_; simp only [go_sem,setCells,setIn]
         exact vw_ret (e_ret (ret_of rfl rfl (by simp [RB]) rfl rfl))))
end Go.Proofs.YtkijdbljnefeaaaGreatDoor
namespace Go.Proofs.YtkijdbljnefeaaaGreatDoor
open Go.VM
set_option maxRecDepth 100000
attribute [local congr] vw_congr runV_congr runH_congr runW_congr runX_congr stuckV_congr stuckX_congr
def piece (x : It3) : ByteArray := if x.2.1 then x.1 ++ ⟨#[47, 10]⟩ else x.1 ++ ⟨#[61]⟩ ++ x.2.2 ++ ⟨#[10]⟩
def itemsL : List It3 → ByteArray → ByteArray
  | [], s => s
  | x :: l, s => itemsL l (s ++ piece x)
def sizeL : List It3 → Nat
  | [] => 0
  | x :: l => x.1.size + x.2.2.size + 2 + sizeL l
theorem runs_11 (l : List It3) (hl : l.length < 2 ^ 63) (hs : sizeL l < 2 ^ 50) :
    Runs Tryz.prog 11 [.one (.v (.list false 3 (l.map iRow)))] [.one (.v (.str (itemsL l ⟨#[]⟩)))] [] := by
  refine runs_tab (tab := [(0, .c (.list false 3 (l.map iRow)))]) (rts := []) (n := 35) (k := 1) Tryz.func11 rfl rfl (by simp) rfl (fun t => ?_) rfl ?_
  · rcases t with _ | t <;> rfl
  refine vw_go rfl ?_; simp only [go_sem,setCells,setIn]
  refine vw_go rfl ?_; simp only [go_sem,setCells,setIn]
  refine vw_seq ?_
  refine vw_go rfl ?_; simp only [go_sem,setCells,setIn]
  refine vw_block ?_
  refine vw_loop_tab (α := Nat × ByteArray) (fun x => l.length - x.1) (fun x => ⟨tabE [(0, .c (.list false 3 (l.map iRow))), (3, .c (.str x.2)), (4, .c (.int .i64 x.1))], tabS [], 1⟩)
    (fun x => x.1 ≤ l.length ∧ x.2.size + sizeL (l.drop x.1) < 2 ^ 50 ∧ itemsL (l.drop x.1) x.2 = itemsL l ⟨#[]⟩) (x := (0, ⟨#[]⟩)) ?round ?h0 ?hn
  case h0 => exact ⟨Nat.zero_le _, by simp only [List.drop_zero]; simpa [ByteArray.size] using hs, rfl⟩
  case hn => (refine norm_to [] rfl ?_ ?_ <;> simp only [go_sem])
  rintro ⟨i, s⟩ ⟨hi, hsz, hm⟩
  simp only at hi hsz hm
  refine vw_seq ?_
  refine vw_go rfl ?_; simp only [go_sem,setCells,setIn]
  refine vw_cond (t := decide ((i : Int) < l.length)) rfl (fun h => ?_) (fun h => ?_)
  · refine vw_skip (n_then ?_)
    rcases get_or l i with ⟨x, hx, hlt⟩ | ⟨_, hge⟩
    case inr => simp only [decide_eq_true_eq] at h; omega
    have c1 : (0:Int) ≤ (i:Int) := by omega
    have c2 : (i:Int) < (l.length : Int) := by omega
    have w2 : IntKind.wrap .i64 ((i:Int) + 1) = ((i + 1 : Nat) : Int) := by rw [wrap_i64 (by omega) (by omega)]; rfl
    rw [drop_of hx] at hm hsz
    simp only [itemsL,sizeL] at hm hsz
    have A1 : s.size + x.1.size < 2 ^ 60 := by omega
    have A2 : s.size + x.1.size + 2 < 2 ^ 60 := by omega
    have A3 : s.size + x.1.size + 1 < 2 ^ 60 := by omega
    have A4 : s.size + x.1.size + 1 + x.2.2.size < 2 ^ 60 := by omega
    have A5 : s.size + x.1.size + 1 + x.2.2.size + 1 < 2 ^ 60 := by omega
    refine vw_seq ?_
    refine vw_block ?_
    refine vw_go rfl ?_; simp only [c1,c2,Int.toNat_natCast,getD_map_of hx,iRow,A1,go_sem,setCells,setIn]
    refine vw_go rfl ?_; simp only [c1,c2,Int.toNat_natCast,getD_map_of hx,iRow,go_sem,setCells,setIn]
    refine vw_cond (t := x.2.1) rfl (fun h => ?_) (fun h => ?_)
    · (refine vw_last rfl ?_; simp only [ByteArray.size_append,sz_lit,List.size_toArray,A2,go_sem,setCells,setIn])
      refine (n_block (n_then ?_))
      refine vw_last rfl ?_; simp only [w2,go_sem,setCells,setIn]
      refine (n_then ?_)
      have e : s ++ piece x = s ++ x.1 ++ ⟨#[47, 10]⟩ := by simp [piece,h,ByteArray.append_assoc]
      refine ⟨(i + 1, s ++ piece x), by simp only; omega, ⟨hlt, ?_, hm⟩, ?_⟩
      · simp only [e,ByteArray.size_append,sz_lit,List.size_toArray,List.length_cons,List.length_nil]; omega
      · rw [e]
        refine norm_to [] rfl ?_ ?_ <;> simp only [go_sem]
    · (refine vw_last rfl ?_; simp only [ByteArray.size_append,sz_lit,List.size_toArray,A3,A4,A5,c1,c2,Int.toNat_natCast,getD_map_of hx,iRow,go_sem,setCells,setIn])
      refine (n_block (n_then ?_))
      refine vw_last rfl ?_; simp only [w2,go_sem,setCells,setIn]
      refine (n_then ?_)
      have e : s ++ piece x = s ++ x.1 ++ ⟨#[61]⟩ ++ x.2.2 ++ ⟨#[10]⟩ := by simp [piece,h,ByteArray.append_assoc]
      refine ⟨(i + 1, s ++ piece x), by simp only; omega, ⟨hlt, ?_, hm⟩, ?_⟩
      · simp only [e,ByteArray.size_append,sz_lit,List.size_toArray,List.length_cons,List.length_nil]; omega
      · rw [e]
        refine norm_to [] rfl ?_ ?_ <;> simp only [go_sem]
  · refine vw_exit (x_then (x_then (x_block (n_then ?_))))
    refine vw_go rfl ?_; simp only [go_sem,setCells,setIn]
    simp only [decide_eq_false_iff_not] at h
    have : i = l.length := by omega
    subst this
    simp only [List.drop_length,itemsL] at hm
    rw [← hm]
    exact vw_ret (e_ret (ret_of rfl rfl (by simp [RB]) rfl rfl))
theorem runs_8 (l : List It3) (hl : l.length < 2 ^ 63) (hs : sizeL l < 2 ^ 50) :
    Runs Tryz.prog 8 [.one (.v (.list false 3 (l.map iRow)))] [.one (.v (.str (itemsL l ⟨#[]⟩)))] [] := by
  refine runs_tab (tab := [(0, .c (.list false 3 (l.map iRow)))]) (rts := []) (n := 30) (k := 1) Tryz.func8 rfl rfl (by simp) rfl (fun t => ?_) rfl ?_
  · rcases t with _ | t <;> rfl
  refine vw_go rfl ?_; simp only [go_sem,setCells,setIn]
  refine vw_go rfl ?_; simp only [go_sem,setCells,setIn]
  refine vw_seq ?_
  refine vw_go rfl ?_; simp only [go_sem,setCells,setIn]
  refine vw_block ?_
  refine vw_loop_tab (α := Nat × ByteArray) (fun x => l.length - x.1) (fun x => ⟨tabE [(0, .c (.list false 3 (l.map iRow))), (6, .c (.list false 3 (l.map iRow))), (7, .c (.int .i64 l.length)), (3, .c (.str x.2)), (8, .c (.int .i64 x.1))], tabS [], 1⟩)
    (fun x => x.1 ≤ l.length ∧ x.2.size + sizeL (l.drop x.1) < 2 ^ 50 ∧ itemsL (l.drop x.1) x.2 = itemsL l ⟨#[]⟩) (x := (0, ⟨#[]⟩)) ?round ?h0 ?hn
  case h0 => exact ⟨Nat.zero_le _, by simp only [List.drop_zero]; simpa [ByteArray.size] using hs, rfl⟩
  case hn => (refine norm_to [] rfl ?_ ?_ <;> simp only [go_sem])
  rintro ⟨i, s⟩ ⟨hi, hsz, hm⟩
  simp only at hi hsz hm
  refine vw_go rfl ?_; simp only [go_sem,setCells,setIn]
  refine vw_seq ?_
  refine vw_cond (t := decide ((i : Int) < l.length)) rfl (fun h => ?_) (fun h => ?_)
  · refine vw_skip (n_then ?_)
    rcases get_or l i with ⟨x, hx, hlt⟩ | ⟨_, hge⟩
    case inr => simp only [decide_eq_true_eq] at h; omega
    have c1 : (0:Int) ≤ (i:Int) := by omega
    have c2 : (i:Int) < (l.length : Int) := by omega
    have w2 : IntKind.wrap .i64 ((i:Int) + 1) = ((i + 1 : Nat) : Int) := by rw [wrap_i64 (by omega) (by omega)]; rfl
    rw [drop_of hx] at hm hsz
    simp only [itemsL,sizeL] at hm hsz
    have A1 : x.1.size + 2 < 2 ^ 60 := by omega
    have A2 : s.size + (x.1.size + 2) < 2 ^ 60 := by omega
    have A3 : x.1.size + 1 < 2 ^ 60 := by omega
    have A4 : x.1.size + 1 + x.2.2.size < 2 ^ 60 := by omega
    have A5 : x.1.size + 1 + x.2.2.size + 1 < 2 ^ 60 := by omega
    have A6 : s.size + (x.1.size + 1 + x.2.2.size + 1) < 2 ^ 60 := by omega
    refine vw_seq ?_
    refine vw_block ?_
    refine vw_go rfl ?_; simp only [c1,c2,Int.toNat_natCast,getD_map_of hx,iRow,go_sem,setCells,setIn]
    refine vw_go rfl ?_; simp only [go_sem,setCells,setIn]
    refine vw_cond (t := x.2.1) rfl (fun h => ?_) (fun h => ?_)
    · (refine vw_last rfl ?_; simp only [ByteArray.size_append,sz_lit,List.size_toArray,A1,A2,go_sem,setCells,setIn])
      refine (n_block (n_then ?_))
      refine vw_last rfl ?_; simp only [w2,go_sem,setCells,setIn]
      refine (n_then ?_)
      have e : piece x = x.1 ++ ⟨#[47, 10]⟩ := by simp [piece,h]
      refine ⟨(i + 1, s ++ piece x), by simp only; omega, ⟨hlt, ?_, hm⟩, ?_⟩
      · simp only [e,ByteArray.size_append,sz_lit,List.size_toArray,List.length_cons,List.length_nil]; omega
      · rw [e]
        refine norm_to [] rfl ?_ ?_ <;> simp only [go_sem]
    · (refine vw_last rfl ?_; simp only [ByteArray.size_append,sz_lit,List.size_toArray,A3,A4,A5,A6,go_sem,setCells,setIn])
      refine (n_block (n_then ?_))
      refine vw_last rfl ?_; simp only [w2,go_sem,setCells,setIn]
      refine (n_then ?_)
      have e : piece x = x.1 ++ ⟨#[61]⟩ ++ x.2.2 ++ ⟨#[10]⟩ := by simp [piece,h]
      refine ⟨(i + 1, s ++ piece x), by simp only; omega, ⟨hlt, ?_, hm⟩, ?_⟩
      · simp only [e,ByteArray.size_append,sz_lit,List.size_toArray,List.length_cons,List.length_nil]; omega
      · rw [e]
        refine norm_to [] rfl ?_ ?_ <;> simp only [go_sem]
  · refine vw_exit (x_then (x_then (x_block (n_then ?_))))
    refine vw_go rfl ?_; simp only [go_sem,setCells,setIn]
    simp only [decide_eq_false_iff_not] at h
    have : i = l.length := by omega
    subst this
    simp only [List.drop_length,itemsL] at hm
    rw [← hm]
    exact vw_ret (e_ret (ret_of rfl rfl (by simp [RB]) rfl rfl))
end Go.Proofs.YtkijdbljnefeaaaGreatDoor
namespace Go.Proofs.YtkijdbljnefeaaaGreatDoor
open Go.VM Go
def cntL (l : List UInt8) : Nat := l.countP (fun c => decide (c = 111))
theorem cnt_take {l : List UInt8} {i : Nat} {b : UInt8} (h : l[i]? = some b) : cntL (l.take (i + 1)) = cntL (l.take i) + (if b = 111 then 1 else 0) := by
  rw [List.take_add_one, h]
  unfold cntL
  rw [List.countP_append]
  by_cases e : b = 111 <;> simp [e]
theorem cnt_app (s t : ByteArray) : cntL (s ++ t).data.toList = cntL s.data.toList + cntL t.data.toList := by
  unfold cntL
  rw [← List.countP_append]
  congr 1
def szN : Nat → Nat
  | 0 => 0
  | i + 1 => szN i + (if 0 < i ∧ i % 6 = 0 then 1 else 0) + 1
theorem show_size (f : FtlV) : ∀ n, (showTo f n).size = szN n
  | 0 => rfl
  | i + 1 => by
    rw [showTo, szN, ByteArray.size_append, ByteArray.size_append, show_size f i, letG_size]
    unfold sepS
    split <;> rfl
theorem cnt_show (f : FtlV) : ∀ n, cntL (showTo f n).data.toList = ((List.range n).filter (fun i => hasP f.map (i : Nat))).length
  | 0 => rfl
  | i + 1 => by
    rw [showTo, cnt_app, cnt_app, cnt_show f i, List.range_succ, List.filter_append, List.length_append]
    have h1 : cntL (sepS i).data.toList = 0 := by unfold sepS; split <;> rfl
    have h2 : cntL (letG f.map (f.pages.getD i ⟨#[]⟩) i).data.toList = ([i].filter (fun i => hasP f.map (i : Nat))).length := by
      unfold letG
      by_cases h : hasP f.map (i : Nat) = true
      · have h' : (fun i : Nat => hasP f.map (i : Int)) i = true := h
        rw [if_pos h, List.filter_cons_of_pos (p := fun i : Nat => hasP f.map (i : Int)) (l := []) h']; rfl
      · have h' : ¬ (fun i : Nat => hasP f.map (i : Int)) i = true := h
        rw [if_neg h, List.filter_cons_of_neg (p := fun i : Nat => hasP f.map (i : Int)) (l := []) h']
        unfold let0
        split <;> rfl
    rw [h1, h2]
    rfl
theorem filter_nodup {q : Int → Bool} : ∀ {m : List Int}, (∀ (i j : Nat) (v : Int), m[i]? = some v → m[j]? = some v → q v = true → i = j) → (m.filter q).Nodup
  | [], _ => by simp
  | x :: m, h => by
    have hm : (m.filter q).Nodup := filter_nodup fun i j v h1 h2 h3 => by
      have := h (i + 1) (j + 1) v (by simpa using h1) (by simpa using h2) h3
      omega
    by_cases hx : q x = true
    · rw [List.filter_cons_of_pos hx, List.nodup_cons]
      refine ⟨fun hmem => ?_, hm⟩
      obtain ⟨j, hj⟩ := List.getElem?_of_mem (List.mem_filter.1 hmem).1
      have := h 0 (j + 1) x (by simp) (by simpa using hj) hx
      omega
    · rw [List.filter_cons_of_neg (by simpa using hx)]
      exact hm
theorem cnt_map {f : FtlV} (h : f.right) : cntL (showTo f f.pages.length).data.toList = f.map.countP (fun x => decide (0 ≤ x)) := by
  rw [cnt_show, List.countP_eq_length_filter]
  have hn1 : (f.map.filter (fun x => decide (0 ≤ x))).Nodup := filter_nodup fun i j v h1 h2 h3 => by
    rw [decide_eq_true_eq] at h3
    obtain ⟨n, rfl⟩ : ∃ n : Nat, v = n := ⟨v.toNat, by omega⟩
    exact right_once h n i j h1 h2
  have hn2 : (((List.range f.pages.length).filter (fun i => hasP f.map (i : Nat))).map (fun i : Nat => (i : Int))).Nodup := by
    have h0 : ((List.range f.pages.length).filter (fun i => hasP f.map (i : Nat))).Nodup := List.Pairwise.filter _ List.nodup_range
    refine List.Pairwise.map _ (fun a b hab e => hab ?_) h0
    have e' : (a : Int) = (b : Int) := e
    omega
  have hp : (((List.range f.pages.length).filter (fun i => hasP f.map (i : Nat))).map (fun i : Nat => (i : Int))).Perm (f.map.filter (fun x => decide (0 ≤ x))) := by
    refine (List.perm_ext_iff_of_nodup hn2 hn1).2 fun x => ?_
    simp only [List.mem_map,List.mem_filter,List.mem_range,decide_eq_true_eq]
    constructor
    · rintro ⟨i, ⟨_, h2⟩, rfl⟩
      obtain ⟨n, hn⟩ := hasP_mem h2
      exact ⟨List.mem_of_getElem? hn, by omega⟩
    · rintro ⟨h1, h2⟩
      obtain ⟨i, hi⟩ := List.getElem?_of_mem h1
      rcases h.at_ i x hi with e | ⟨j, u, e, hu, _⟩
      · omega
      · refine ⟨j, ⟨lt_of_getl hu, ?_⟩, e.symm⟩
        rw [← e]
        simp only [hasP,List.any_eq_true,decide_eq_true_eq]
        exact ⟨x, h1, rfl⟩
  have := hp.length_eq
  rwa [List.length_map] at this
/-- What the law asks of a chip's text. -/
theorem show_law (f : FtlV) (hs : f.small) : (showF f = ⟨#[]⟩ ∧ cntL (showF f).data.toList = 0) ∨ (¬ showF f = ⟨#[]⟩ ∧ (showF f).size = 69 ∧ cntL (showF f).data.toList = f.map.countP (fun x => decide (0 ≤ x))) := by
  unfold showF
  by_cases hk : ftlOk f = true
  · rw [if_pos hk]
    have h60 : f.pages.length = 60 := by
      simp only [ftlOk,Bool.and_eq_true,decide_eq_true_eq] at hk
      have := hk.1
      unfold chipOk at this
      simp only [Bool.and_eq_true,decide_eq_true_eq] at this
      omega
    have hz : (showTo f f.pages.length).size = 69 := by rw [show_size, h60]; rfl
    refine .inr ⟨fun e => ?_, hz, cnt_map (right_of hs hk)⟩
    rw [e] at hz
    cases hz
  · rw [if_neg hk]
    exact .inl ⟨rfl, rfl⟩
theorem pathRd_ok {s : ByteArray} (h : (pathRd s).2 = true) : pathOk (pathRd s).1 = true := by
  unfold pathRd at h ⊢
  split
  · rfl
  · rename_i hc
    rw [if_neg hc] at h
    simp only [Bool.and_eq_true] at h
    exact h.2
theorem kindOf_nn (w : ByteArray) : 0 ≤ kindOf w := by
  unfold kindOf
  split <;> omega
theorem opRead_law (s : ByteArray) : ((opReadF s).2 = true ∧ pathOk (opReadF s).1.path = true ∧ 1 ≤ (opReadF s).1.kind) ∨ ((opReadF s).2 = false ∧ (opReadF s).1 = zOpV) := by
  unfold opReadF
  have hp := pathRd_ok (s := (cutS (cutS s).2.1).1)
  have hk := kindOf_nn (cutS s).1
  generalize pathRd (cutS (cutS s).2.1).1 = p at hp
  generalize pathRd (cutS (cutS s).2.1).2.1 = q
  generalize kindOf (cutS s).1 = K at hk
  obtain ⟨pp, pg⟩ := p
  simp only at hp
  unfold opReadG
  split
  · exact .inr ⟨rfl, rfl⟩
  split
  · split
    · rename_i h
      simp only [Bool.and_eq_true] at h
      exact .inl ⟨rfl, hp h.2.1, by show (1 : Int) ≤ 3; decide⟩
    · exact .inr ⟨rfl, rfl⟩
  split
  · split
    · rename_i h
      simp only [Bool.and_eq_true] at h
      exact .inl ⟨rfl, hp h.2.1, by show (1 : Int) ≤ 6; decide⟩
    · exact .inr ⟨rfl, rfl⟩
  split
  · rename_i h
    simp only [Bool.and_eq_true] at h
    exact .inl ⟨rfl, hp h.2.1, by simp only; omega⟩
  · exact .inr ⟨rfl, rfl⟩
theorem opRead_size (s : ByteArray) : (opReadF s).1.path.size ≤ s.size := by
  have h1 := cutS_size s
  have h2 := cutS_size (cutS s).2.1
  have h3 : (pathRd (cutS (cutS s).2.1).1).1.size ≤ s.size := by
    unfold pathRd
    split
    · exact Nat.zero_le _
    · simp only; omega
  unfold opReadF
  generalize pathRd (cutS (cutS s).2.1).1 = p at h3
  have h0 : zOpV.path.size ≤ s.size := Nat.zero_le _
  unfold opReadG
  split
  · exact h0
  split
  · split
    · exact h3
    · exact h0
  split
  · split
    · exact h3
    · exact h0
  split
  · exact h3
  · exact h0
theorem cnt_le (l : List UInt8) : cntL l ≤ l.length := List.countP_le_length
theorem nn_take {l : List Int} {i : Nat} {x : Int} (h : l[i]? = some x) : (l.take (i + 1)).countP (fun x => decide (0 ≤ x)) = (l.take i).countP (fun x => decide (0 ≤ x)) + (if 0 ≤ x then 1 else 0) := by
  rw [List.take_add_one, h, List.countP_append]
  by_cases e : 0 ≤ x <;> simp [e]
theorem sizeL_le : ∀ {l : List It3}, (∀ x ∈ l, x.1.size ≤ 100 ∧ x.2.2.size ≤ 60) → sizeL l ≤ 162 * l.length
  | [], _ => Nat.le_refl _
  | x :: l, h => by
    have h1 := h x (List.mem_cons_self ..)
    have h2 := sizeL_le (l := l) fun y hy => h y (List.mem_cons_of_mem _ hy)
    rw [sizeL, List.length_cons]
    omega
end Go.Proofs.YtkijdbljnefeaaaGreatDoor
