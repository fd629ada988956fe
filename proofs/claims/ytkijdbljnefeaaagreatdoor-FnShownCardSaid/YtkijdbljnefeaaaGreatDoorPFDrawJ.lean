/- Draws of volumes. Items: what a volume has, as the reference tells it. Draws of lists of items, with weak bounds (for a seat that has no Plain). -/
import Derived.Test.YtkijdbljnefeaaaGreatDoorPFDrawF
import Derived.Test.YtkijdbljnefeaaaGreatDoorPFUsed
import Derived.Test.YtkijdbljnefeaaaGreatDoorPFDone
import Derived.Test.YtkijdbljnefeaaaGreatDoorPFIn
set_option linter.unusedSimpArgs false
set_option linter.unusedVariables false
namespace Go.Proofs.YtkijdbljnefeaaaGreatDoor
open Go.VM Go
set_option maxRecDepth 100000
attribute [-go_sem] runW_cons
attribute [local congr] vw_congr runV_congr runH_congr runW_congr runX_congr stuckV_congr stuckX_congr
theorem drawOp_small (L : List UInt8) (c : Cur) : (drawOp L c).1.path.size ≤ 11 ∧ (drawOp L c).1.to.size ≤ 11 := by
  have hp : ∀ c, (drawPath L c).size ≤ 11 := by
    intro c
    have h : ∀ s ∈ pathL, s.size ≤ 11 := by decide
    exact h _ (pickV_mem (l := pathL) L c ⟨#[]⟩ (by decide))
  unfold drawOp
  split
  · exact ⟨hp _, Nat.zero_le _⟩
  · split
    · exact ⟨hp _, hp _⟩
    · exact ⟨hp _, Nat.zero_le _⟩
def stepV (L : List UInt8) (c : Cur) (l : List ByteArray) : List ByteArray := doneL l (askF l (drawOp L c).1).2.2
def changeG (L : List UInt8) : Nat → Cur → List ByteArray → List ByteArray × Cur
  | 0, c, l => (l, c)
  | n + 1, c, l => changeG L n (drawOp L c).2 (stepV L c l)
def drawRight (L : List UInt8) (c : Cur) : List ByteArray × Cur := changeG L (belV L c 22).toNat (byteC L c) volNew
def volFit (l : List ByteArray) : Prop := l.length = 12 ∧ ∀ s ∈ l, s.size ≤ 100
theorem volNew_fit : volFit volNew := ⟨rfl, by decide⟩
theorem stepV_fit {L : List UInt8} {c : Cur} {l : List ByteArray} (h : volFit l) : volFit (stepV L c l) :=
  ⟨by unfold stepV; rw [doneL_len]; exact h.1, doneL_size _ l 100 h.2 (askF_few l _).2⟩
theorem changeG_fit (L : List UInt8) : ∀ (n : Nat) (c : Cur) (l : List ByteArray), volFit l → volFit (changeG L n c l).1
  | 0, c, l, h => h
  | n + 1, c, l, h => changeG_fit L n _ _ (stepV_fit h)
theorem drawRight_fit (L : List UInt8) (c : Cur) : volFit (drawRight L c).1 := changeG_fit L _ _ _ volNew_fit
set_option maxHeartbeats 1000000 in
theorem runs_40 (v : Value) (L : List UInt8) (hL : L.length < 2 ^ 60) (c : Cur) (l : List ByteArray) (C : Cur) (hC : (l, C) = drawRight L c) :
    Runs Tryz.prog 40 [.one (.box [.held v 1 (L.map bRow), .int .i64 c.i, .int .i64 c.h])] [.one (.v (.list true 1 (l.map sRow)))] [(0, ⟨true, 3, [[.held v 1 (L.map bRow), .int .i64 C.i, .int .i64 C.h]], []⟩)] := by
  refine runs_tabB (tab := [(0, .ptr 0 [] 0 0 0)]) (rts := [(0, some ⟨true, 3, [[.held v 1 (L.map bRow), .int .i64 c.i, .int .i64 c.h]], []⟩)]) (n := 23) (k := 1) Tryz.func40 rfl rfl (by simp) rfl (fun t => ?_) rfl ?_
  · rcases t with _ | t <;> rfl
  unfold drawRight at hC
  have rV := runs_60
  have hv0 := volNew_fit
  generalize volNew = v0 at rV hC hv0
  have rB := runs_21 v L hL c 22 (by decide) (by decide)
  have hb := belV_in L c (n := 22) (by decide)
  generalize belV L c 22 = b at rB hC hb
  generalize byteC L c = c1 at rB hC
  obtain ⟨N, rfl⟩ : ∃ N : Nat, b = N := ⟨b.toNat, by omega⟩
  rw [Int.toNat_natCast] at hC
  refine vw_go rfl ?_; simp only [go_sem,setCells,setIn]
  refine vw_go rfl ?_; simp only [go_sem,setCells,setIn]
  refine ⟨_, _, call_rx [] Tryz.func60 (rV) rfl rfl rfl rfl rfl rfl rfl (by simp [lendAll,lendC,seek,fresh,nav,rcells,RT.cells,VV.cells,tabE_cons,tabS_cons,ev,take_map_len,sRow_r1,sRow_comp,sRow_clean]) rfl (by simp [rcells,RT.cells,CT.clean,T.clean,sRow_r1,sRow_comp,sRow_clean]) rfl rfl, ?_⟩
  simp only [runH,runX,go_sem,setCells,setIn]
  refine vw_go rfl ?_; simp only [go_sem,setCells,setIn]
  refine ⟨_, _, call_pt [0, 0] 0 Tryz.func21 (rB) rfl rfl rfl rfl rfl rfl rfl rfl (by simp [lendAll,lendC,seek,fresh,nav,rcells,RT.cells,VV.cells,tabE_cons,tabS_cons,St.put,ev,lit,take_map_len]) rfl rfl (by simp [rcells,RT.cells,CT.fine,T.fine]) (by exact ⟨.inr ⟨0, _, _, rfl, .head _, .head _⟩, trivial, trivial, trivial⟩) rfl rfl, ?_⟩
  simp only [runH,runX,go_sem,setCells,setIn]
  refine vw_seq ?_
  refine vw_go rfl ?_; simp only [go_sem,setCells,setIn]
  refine vw_block ?_
  refine vw_loop_tab (α := Nat × Nat × Cur × List ByteArray × List Path) (fun x => x.1) (fun x => ⟨tabE [(0, .ptr 0 [] 0 0 0), (3, .al 1 [] 0 1 0 x.2.2.2.1.length), (4, .c (.int .i64 N)), (5, .c (.int .i64 x.2.1))],
      tabS [(0, some ⟨true, 3, [[.held v 1 (L.map bRow), .int .i64 x.2.2.1.i, .int .i64 x.2.2.1.h]], x.2.2.2.2⟩), (1, some ⟨false, 1, x.2.2.2.1.map sRow, []⟩)], 2⟩)
    (fun x => x.1 + x.2.1 = N ∧ changeG L x.1 x.2.2.1 x.2.2.2.1 = (l, C) ∧ volFit x.2.2.2.1) (x := (N, 0, c1, v0, [[]])) ?round ?h0 ?hn
  case h0 => exact ⟨rfl, hC.symm, hv0⟩
  case hn =>
    refine norm_to [(0, 0), (65537, 1)] rfl ?_ ?_ <;> simp only [go_sem]
  rintro ⟨n, i, d, w, lg⟩ ⟨hn, hg, hf⟩
  simp only at hn hg hf
  refine vw_seq ?_
  by_cases hc : (i : Int) < N
  case neg =>
    obtain rfl : n = 0 := by omega
    rw [changeG] at hg
    obtain ⟨rfl, rfl⟩ := hg
    refine vw_go rfl ?_; simp only [hc,go_sem,setCells,setIn]
    refine vw_cond (t := false) rfl (fun h => nomatch h) (fun _ => ?_)
    refine vw_exit (x_then (x_then (x_block (n_then ?_))))
    refine vw_go rfl ?_; simp only [go_sem,setCells,setIn]
    have bl : List.take l.length (l.map sRow) = l.map sRow := List.take_of_length_le (by simp)
    exact vw_ret (e_ret (ret_b rfl rfl (by simp [RB]) rfl (by simp only [takeCs,takeC,bl,List.drop_length,go_sem,setCells,setIn]; rfl) (by exact ⟨⟨by simp, _, rfl, rfl, rfl, rfl⟩, trivial⟩)))
  obtain ⟨m, rfl⟩ : ∃ m, n = m + 1 := ⟨n - 1, by omega⟩
  rw [changeG] at hg
  have hf2 := stepV_fit (L := L) (c := d) hf
  have rO := runs_62 v L hL d (drawOp L d).1 (drawOp L d).2 rfl
  have hos := drawOp_small L d
  have rC := runs_61 w (by rw [hf.1]; decide) (fun s hs => Nat.le_trans (hf.2 s hs) (by decide)) (drawOp L d).1 (by omega) (by omega) _ rfl
  unfold stepV at hg hf2
  generalize drawOp L d = oc at rO hg rC hf2
  obtain ⟨o, e⟩ := oc
  simp only at rO hg rC hf2
  generalize askF w o = A at rC hg hf2
  generalize doneL w A.2.2 = u at rC hg hf2
  have bw : List.take w.length (w.map sRow) = w.map sRow := List.take_of_length_le (by simp)
  have w3 : IntKind.wrap .i64 ((i:Int) + 1) = ((i + 1 : Nat) : Int) := by rw [wrap_i64 (by omega) (by omega)]; rfl
  refine vw_go rfl ?_; simp only [hc,go_sem,setCells,setIn]
  refine vw_cond (t := true) rfl (fun _ => ?_) (fun h => nomatch h)
  refine vw_skip (n_then ?_)
  refine vw_seq ?_
  refine vw_block ?_
  refine vw_last rfl ?_; simp only [go_sem,setCells,setIn]
  refine ⟨_, _, call_pt [0] 0 Tryz.func62 (rO) rfl rfl rfl rfl rfl rfl rfl rfl (by simp [lendAll,lendC,seek,fresh,nav,rcells,RT.cells,VV.cells,tabE_cons,tabS_cons,St.put,ev,lit,take_map_len]) rfl rfl (by simp [rcells,RT.cells,CT.fine,T.fine]) (by exact ⟨.inr ⟨0, _, _, rfl, .head _, .head _⟩, trivial, trivial, trivial⟩) rfl rfl, ?_⟩
  simp only [runH,runX,bw,go_sem,setCells,setIn]
  refine ⟨_, _, call_rx [0, 0] Tryz.func61 (rC) rfl rfl rfl rfl rfl rfl rfl (by simp [lendAll,lendC,seek,fresh,nav,rcells,RT.cells,VV.cells,tabE_cons,tabS_cons,ev,take_map_len,sRow_r1,sRow_comp,sRow_clean,bw]) rfl (by simp [rcells,RT.cells,CT.clean,T.clean,sRow_r1,sRow_comp,sRow_clean,bw]) rfl rfl, ?_⟩
  simp only [runH,runX,go_sem,setCells,setIn]
  refine (n_block (n_then ?_))
  refine vw_last rfl ?_; simp only [w3,go_sem,setCells,setIn]
  refine (n_then ?_)
  refine ⟨(m, i + 1, e, u, lg ++ [[]]), by simp only; omega, ⟨by simp only; omega, hg, hf2⟩, ?_⟩
  refine norm_to [(0, 0), (68610, 1)] rfl ?_ ?_ <;> simp only [go_sem]
end Go.Proofs.YtkijdbljnefeaaaGreatDoor
namespace Go.Proofs.YtkijdbljnefeaaaGreatDoor
open Go.VM Go
set_option maxRecDepth 100000
attribute [local congr] vw_congr runV_congr runH_congr runW_congr runX_congr stuckV_congr stuckX_congr
theorem iRow_noOwn (l : List It3) : ((l.map iRow).all fun r => r.all plainT) = true := by
  rw [List.all_map, List.all_eq_true]
  exact fun x _ => rfl
theorem big_41 {x : Nat} (h : x ≤ 2 ^ 22) : ¬ x * (40 + 1) > bigRow := by
  have h1 := Nat.mul_le_mul_right (40 + 1) h
  have h2 : (2 ^ 22 * (40 + 1) : Nat) ≤ bigRow := by decide
  omega
set_option maxHeartbeats 1000000 in
theorem runs_l12_0 (l : List ByteArray) (hl : l.length = 12) (hsz : ∀ s ∈ l, s.size ≤ 2 ^ 20) (f k : Nat) (hk : k < 12) (hd : deepOk l f k) (p : ByteArray) (hp : p.size + 10 * f ≤ 1000) (hf : lim f ≤ 2 ^ 20)
    (ih : ∀ g, f = g + 1 → ∀ (k : Nat) (p : ByteArray), k < 12 → deepOk l g k → p.size + 10 * g ≤ 1000 → lim g ≤ 2 ^ 20 →
      Runs Tryz.prog 59 [.one (.v (.list false 1 (l.map sRow))), .one (.v (.int .i64 k)), .one (.v (.str p))] [.one (.v (.list true 3 ((itemsG l g k p).map iRow)))] []) :
    Runs Tryz.prog 59 [.one (.v (.list false 1 (l.map sRow))), .one (.v (.int .i64 k)), .one (.v (.str p))] [.one (.v (.list true 3 ((itemsG l f k p).map iRow)))] [] := by
  refine runs_tab (tab := [(0, .c (.list false 1 (l.map sRow))), (1, .c (.int .i64 k)), (2, .c (.str p))]) (rts := []) (n := 70) (k := 3) Tryz.func59 rfl rfl (by simp) rfl (fun t => ?_) rfl ?_
  · rcases t with _ | _ | _ | t <;> rfl
  obtain ⟨g, rfl, hok, hkd⟩ := deep_step hd
  have hG : itemsG l (g + 1) k p = itemsK l (itemsG l g) (nodeRead (l.getD k ⟨#[]⟩)).1.names (nodeRead (l.getD k ⟨#[]⟩)).1.kids p := rfl
  rw [hG]
  have hnk := nodeOk_kids (nodeRead_ok hok)
  have hfew := nodeRead_few (l.getD k ⟨#[]⟩)
  have hnm : ∀ y ∈ (nodeRead (l.getD k ⟨#[]⟩)).1.names, y.size ≤ 6 ∧ 1 ≤ y.size := by
    intro y hy
    have hO := nodeRead_ok hok
    rcases hdd : (nodeRead (l.getD k ⟨#[]⟩)).1.dir with _ | _
    · obtain ⟨h1, _⟩ := nodeOk_file hdd hO
      rw [List.eq_nil_of_length_eq_zero h1] at hy; cases hy
    · obtain ⟨_, _, h3⟩ := nodeOk_dir hdd hO
      obtain ⟨i, hi, rfl⟩ := List.getElem_of_mem hy
      have := nodeAt_out (h3 i hi)
      rw [List.getD_eq_getElem?_getD, List.getElem?_eq_getElem hi] at this
      have h6 : ((nodeRead (l.getD k ⟨#[]⟩)).1.names[i]).size ≤ 6 ∧ 1 ≤ ((nodeRead (l.getD k ⟨#[]⟩)).1.names[i]).size := ⟨by simpa using this.1, by simpa using this.2.1⟩
      exact h6
  clear hG hd
  obtain ⟨s, hs⟩ : ∃ s, l[k]? = some s := ⟨_, List.getElem?_eq_getElem (by omega)⟩
  have rA := runs_85 s (hsz s (List.mem_of_getElem? hs)) _ rfl
  rw [getD_of hs] at hok hkd hnk hfew hnm ⊢
  generalize nodeRead s = r at rA hok hkd hnk hfew hnm ⊢
  obtain ⟨n, ok⟩ := r
  simp only at rA hok hkd hnk hfew hnm ⊢
  subst hok
  have c0 : (0:Int) ≤ (k : Int) := by omega
  have c1 : (k : Int) < (l.length : Int) := by omega
  have c3 : k < l.length := by omega
  have bn : List.take n.names.length (n.names.map sRow) = n.names.map sRow := List.take_of_length_le (by simp)
  have bk : List.take n.kids.length (n.kids.map nRow) = n.kids.map nRow := List.take_of_length_le (by simp)
  refine vw_go rfl ?_; simp only [go_sem,setCells,setIn]
  refine vw_go rfl ?_; simp only [range1,List.replicate_succ,List.replicate_zero,List.flatten_cons,List.flatten_nil,List.range_zero,gt_iff_lt,go_sem,setCells,setIn]
  refine vw_go rfl ?_; simp only [c0,c1,c3,Int.toNat_natCast,getD_map_of hs,sRow,go_sem,setCells,setIn]
  refine ⟨_, _, call_rx [0] Tryz.func85 (rA) rfl rfl rfl rfl rfl rfl rfl (by simp [lendAll,lendC,seek,fresh,nav,rcells,RT.cells,VV.cells,tabE_cons,tabS_cons,ev,take_map_len,sRow_r1,sRow_comp,sRow_clean,nRow_r1,nRow_comp,nRow_clean,iRow_clean,iRow_r1]) rfl (by simp [rcells,RT.cells,CT.clean,T.clean,sRow_r1,sRow_comp,sRow_clean,nRow_r1,nRow_comp,nRow_clean,iRow_clean,iRow_r1]) rfl rfl, ?_⟩
  simp only [runH,runX,bn,bk,go_sem,setCells,setIn]
  refine vw_seq ?_
  refine vw_go rfl ?_; simp only [go_sem,setCells,setIn]
  refine vw_block ?_
  refine vw_loop_tab (α := Nat × List It3 × List Path) (fun x => n.names.length - x.1) (fun x => ⟨tabE [(0, .c (.list false 1 (l.map sRow))), (2, .c (.str p)), (7, .al 4 [] 0 3 0 x.2.1.length), (8, .ptr 3 [] 0 0 0), (10, .c (.int .i64 x.1))],
      tabS [(3, some ⟨true, 4, [[.bool n.dir, .list true 1 (n.names.map sRow), .list true 1 (n.kids.map nRow), .str n.data]], [[(0, 1)], [(0, 2)]]⟩), (4, some ⟨false, 3, x.2.1.map iRow, x.2.2⟩)], 5⟩)
    (fun x => x.1 ≤ n.names.length ∧ x.2.1 ++ itemsK l (itemsG l g) (n.names.drop x.1) (n.kids.drop x.1) p = itemsK l (itemsG l g) n.names n.kids p ∧ x.2.1.length + (n.kids.length - x.1) * (1 + lim g) ≤ 2 ^ 20) (x := (0, [], [])) ?round ?h0 ?hn
  case h0 =>
    refine ⟨Nat.zero_le _, rfl, ?_⟩
    have := Nat.mul_le_mul_right (1 + lim g) hfew.1
    simp only [lim,Nat.sub_zero,List.length_nil] at hf ⊢
    omega
  case hn =>
    refine norm_to [(65539, 4), (139267, 3)] rfl ?_ ?_ <;> simp only [go_sem]
  rintro ⟨i, q, lg⟩ ⟨hi, hg, hlen⟩
  simp only at hi hg hlen
  refine vw_seq ?_
  by_cases hc : (i : Int) < n.names.length
  case neg =>
    rw [List.drop_eq_nil_of_le (by omega), List.drop_eq_nil_of_le (by omega)] at hg
    have e0 : itemsK l (itemsG l g) [] [] p = [] := by unfold itemsK; rfl
    rw [e0, List.append_nil] at hg
    rw [← hg]
    have bq : List.take q.length (q.map iRow) = q.map iRow := List.take_of_length_le (by simp)
    refine vw_go rfl ?_; simp only [hc,List.drop_length,go_sem,setCells,setIn]
    refine vw_cond (t := false) rfl (fun h => nomatch h) (fun _ => ?_)
    refine vw_exit (x_then (x_then (x_block (n_then ?_))))
    refine vw_go rfl ?_; simp only [go_sem,setCells,setIn]
    exact vw_ret (e_ret (ret_by rfl rfl (by simp [RB]) rfl (by simp only [takeCs,takeC,bq,go_sem,setCells,setIn])))
  have hin : i < n.names.length := by omega
  have hik : i < n.kids.length := by omega
  obtain ⟨a, ha⟩ : ∃ a, n.names[i]? = some a := ⟨_, List.getElem?_eq_getElem hin⟩
  obtain ⟨y, hy⟩ : ∃ y, n.kids[i]? = some y := ⟨_, List.getElem?_eq_getElem hik⟩
  have hda : n.names.drop i = a :: n.names.drop (i + 1) := by
    rw [List.drop_eq_getElem_cons hin]
    congr 1
    rw [List.getElem?_eq_getElem hin] at ha
    exact Option.some.inj ha
  have hdk : n.kids.drop i = y :: n.kids.drop (i + 1) := by
    rw [List.drop_eq_getElem_cons hik]
    congr 1
    rw [List.getElem?_eq_getElem hik] at hy
    exact Option.some.inj hy
  have hyr := hnk.1 y (List.mem_of_getElem? hy)
  have hyd := hkd y (List.mem_of_getElem? hy)
  have has := hnm a (List.mem_of_getElem? ha)
  obtain ⟨z, rfl⟩ : ∃ z : Nat, y = z := ⟨y.toNat, by omega⟩
  rw [Int.toNat_natCast] at hyd
  rw [hda, hdk, itemsK, Int.toNat_natCast] at hg
  obtain ⟨t, ht⟩ : ∃ s, l[z]? = some s := ⟨_, List.getElem?_eq_getElem (by omega)⟩
  rw [getD_of ht] at hg
  have rZ := runs_85 t (hsz t (List.mem_of_getElem? ht)) _ rfl
  generalize nodeRead t = zz at rZ hg
  obtain ⟨m, mok⟩ := zz
  simp only at rZ hg
  have d0 : (0:Int) ≤ (i : Int) := by omega
  have d1 : (i : Int) < n.kids.length := by omega
  have z0 : (0:Int) ≤ (z : Int) := by omega
  have z1 : (z : Int) < l.length := by omega
  have z2 : z < l.length := by omega
  have w3 : IntKind.wrap .i64 ((i:Int) + 1) = ((i + 1 : Nat) : Int) := by rw [wrap_i64 (by omega) (by omega)]; rfl
  have hown : (p ++ a).size ≤ p.size + 6 := by rw [ByteArray.size_append]; omega
  have A1 : p.size + a.size < 2 ^ 60 := by omega
  have A2 : (p ++ a).size + 1 < 2 ^ 60 := by omega
  have bn2 : List.take m.names.length (m.names.map sRow) = m.names.map sRow := List.take_of_length_le (by simp)
  have bk2 : List.take m.kids.length (m.kids.map nRow) = m.kids.map nRow := List.take_of_length_le (by simp)
  have bq : List.take q.length (q.map iRow) = q.map iRow := List.take_of_length_le (by simp)
  have hmul : (1 + lim g) ≤ (n.kids.length - i) * (1 + lim g) := Nat.le_mul_of_pos_left _ (by omega)
  have hmul2 : (n.kids.length - i) * (1 + lim g) = (n.kids.length - (i + 1)) * (1 + lim g) + (1 + lim g) := by
    rw [show n.kids.length - i = (n.kids.length - (i + 1)) + 1 from by omega, Nat.add_mul, Nat.one_mul]
  have B1 : ¬ (q.length + 1 + 1) * (40 + 1) > bigRow := big_41 (by omega)
  refine vw_go rfl ?_; simp only [hc,List.drop_length,go_sem,setCells,setIn]
  refine vw_cond (t := true) rfl (fun _ => ?_) (fun h => nomatch h)
  refine vw_skip (n_then ?_)
  refine vw_seq ?_
  refine vw_block ?_
  refine vw_go rfl ?_; simp only [d0,d1,hik,z0,z1,z2,Int.toNat_natCast,getD_map_of hy,getD_map_of ht,nRow,sRow,List.drop_length,go_sem,setCells,setIn]
  refine ⟨_, _, call_rx [0] Tryz.func85 (rZ) rfl rfl rfl rfl rfl rfl rfl (by simp [lendAll,lendC,seek,fresh,nav,rcells,RT.cells,VV.cells,tabE_cons,tabS_cons,ev,take_map_len,sRow_r1,sRow_comp,sRow_clean,nRow_r1,nRow_comp,nRow_clean,iRow_clean,iRow_r1]) rfl (by simp [rcells,RT.cells,CT.clean,T.clean,sRow_r1,sRow_comp,sRow_clean,nRow_r1,nRow_comp,nRow_clean,iRow_clean,iRow_r1]) rfl rfl, ?_⟩
  simp only [runH,runX,bn2,bk2,go_sem,setCells,setIn]
  refine vw_go rfl ?_; simp only [d0,hc,hin,Int.toNat_natCast,getD_map_of ha,sRow,List.drop_length,A1,go_sem,setCells,setIn]
  generalize p ++ a = own at hg hown A2 ⊢
  refine vw_go rfl ?_; simp only [bq,B1,List.drop_length,List.length_append,range1,List.replicate_succ,List.replicate_zero,List.flatten_cons,List.flatten_nil,List.range_zero,gt_iff_lt,take_snocI,go_sem,setCells,setIn]
  have e4 : q.map iRow ++ [[.str own, .bool m.dir, .str m.data]] = (q ++ [((own, m.dir, m.data) : It3)]).map iRow := by simp [iRow]
  have e5 : q.length + 1 = (q ++ [((own, m.dir, m.data) : It3)]).length := by simp
  rw [e4, e5]
  have hq1 : (q ++ [((own, m.dir, m.data) : It3)]).length = q.length + 1 := by simp
  have hg' : (q ++ [((own, m.dir, m.data) : It3)]) ++ (itemsG l g z (own ++ ⟨#[47]⟩) ++ itemsK l (itemsG l g) (n.names.drop (i + 1)) (n.kids.drop (i + 1)) p) = itemsK l (itemsG l g) n.names n.kids p := by
    rw [← hg]; simp
  generalize q ++ [((own, m.dir, m.data) : It3)] = q1 at hq1 hg' ⊢
  have hsl : (own ++ (⟨#[47]⟩ : ByteArray)).size = own.size + 1 := by rw [ByteArray.size_append]; rfl
  have rI := ih g rfl z (own ++ ⟨#[47]⟩) (by omega) hyd (by omega) (by simp only [lim] at hf; omega)
  have hgl := itemsG_len l g z (own ++ ⟨#[47]⟩)
  generalize itemsG l g z (own ++ ⟨#[47]⟩) = it at rI hg' hgl
  have bq1 : List.take q1.length (q1.map iRow) = q1.map iRow := List.take_of_length_le (by simp)
  have bit : List.take it.length (it.map iRow) = it.map iRow := List.take_of_length_le (by simp)
  have B2 : ¬ (q1.length + it.length + 1) * (40 + 1) > bigRow := big_41 (by clear rI rA rZ ih hg hg'; omega)
  refine vw_last rfl ?_; simp only [d0,d1,hik,Int.toNat_natCast,getD_map_of hy,nRow,List.drop_length,A2,ByteArray.size_append,sz_lit,List.size_toArray,List.length_cons,List.length_nil,go_sem,setCells,setIn]
  refine ⟨_, _, call_rx [0, 0, 0] Tryz.func59 (rI) rfl rfl rfl rfl rfl rfl rfl (by simp [lendAll,lendC,seek,fresh,nav,rcells,RT.cells,VV.cells,tabE_cons,tabS_cons,ev,take_map_len,sRow_r1,sRow_comp,sRow_clean,nRow_r1,nRow_comp,nRow_clean,iRow_clean,iRow_r1]) rfl (by simp [rcells,RT.cells,CT.clean,T.clean,sRow_r1,sRow_comp,sRow_clean,nRow_r1,nRow_comp,nRow_clean,iRow_clean,iRow_r1]) rfl rfl, ?_⟩
  simp only [runH,runX,bq1,bit,B2,List.drop_length,List.length_append,range1,List.replicate_succ,List.replicate_zero,List.flatten_cons,List.flatten_nil,List.range_zero,gt_iff_lt,iRow_noOwn,go_sem,setCells,setIn]
  refine (n_block (n_then ?_))
  refine vw_last rfl ?_; simp only [w3,go_sem,setCells,setIn]
  refine (n_then ?_)
  have e6 : q1.map iRow ++ it.map iRow = (q1 ++ it).map iRow := by simp
  have e7 : q1.length + it.length = (q1 ++ it).length := by simp
  rw [← List.append_assoc] at hg'
  have hq2 : (q1 ++ it).length ≤ q.length + 1 + lim g := by rw [List.length_append]; omega
  rw [e6, e7]
  generalize q1 ++ it = q2 at hg' hq2 ⊢
  refine ⟨(i + 1, q2, []), by simp only; omega, ⟨by simp only; omega, hg', by simp only; omega⟩, ?_⟩
  refine norm_to [(272389, 4), (3, 3)] rfl ?_ ?_ <;> simp only [go_sem]
theorem runs_59 (l : List ByteArray) (hl : l.length = 12) (hsz : ∀ s ∈ l, s.size ≤ 2 ^ 20) : ∀ (f k : Nat) (p : ByteArray), k < 12 → deepOk l f k → p.size + 10 * f ≤ 1000 → lim f ≤ 2 ^ 20 →
    Runs Tryz.prog 59 [.one (.v (.list false 1 (l.map sRow))), .one (.v (.int .i64 k)), .one (.v (.str p))] [.one (.v (.list true 3 ((itemsG l f k p).map iRow)))] []
  | 0, k, p, hk, hd, hp, ho => runs_l12_0 l hl hsz 0 k hk hd p hp ho (fun g e => by omega)
  | f + 1, k, p, hk0, hd0, hp0, ho0 => runs_l12_0 l hl hsz (f + 1) k hk0 hd0 p hp0 ho0 (fun g e k p hk hd hp ho => by
      have e' : g = f := by omega
      subst e'
      exact runs_59 l hl hsz g k p hk hd hp ho)
theorem runs_39 (l : List ByteArray) (hl : l.length < 2 ^ 60) (hsz : ∀ s ∈ l, s.size ≤ 2 ^ 20) : Runs Tryz.prog 39 [.one (.v (.list false 1 (l.map sRow)))] [.one (.v (.list true 3 ((itemsV l).map iRow)))] [] := by
  refine runs_tab (tab := [(0, .c (.list false 1 (l.map sRow)))]) (rts := []) (n := 9) (k := 1) Tryz.func39 rfl rfl (by simp) rfl (fun t => ?_) rfl ?_
  · rcases t with _ | t <;> rfl
  have rV := runs_58 l hl hsz
  unfold itemsV
  refine vw_go rfl ?_; simp only [go_sem,setCells,setIn]
  refine vw_seq ?_
  refine vw_go rfl ?_; simp only [go_sem,setCells,setIn]
  refine ⟨_, _, call_rx [0] Tryz.func58 (rV) rfl rfl rfl rfl rfl rfl rfl (by simp [lendAll,lendC,seek,fresh,nav,rcells,RT.cells,VV.cells,tabE_cons,tabS_cons,ev,take_map_len,sRow_r1,sRow_comp,sRow_clean,nRow_r1,nRow_comp,nRow_clean,iRow_clean,iRow_r1]) rfl (by simp [rcells,RT.cells,CT.clean,T.clean,sRow_r1,sRow_comp,sRow_clean,nRow_r1,nRow_comp,nRow_clean,iRow_clean,iRow_r1]) rfl rfl, ?_⟩
  cases hv : volOk l
  · simp only [runH,runX,go_sem,setCells,setIn]
    refine vw_cond (t := true) rfl (fun _ => ?_) (fun h => nomatch h)
    refine vw_go rfl ?_; simp only [range1,List.replicate_succ,List.replicate_zero,List.flatten_cons,List.flatten_nil,List.range_zero,gt_iff_lt,go_sem,setCells,setIn]
    exact vw_ret (r_then (e_ret (ret_of rfl rfl (by simp [RB]) rfl rfl)))
  obtain ⟨h12, hd⟩ := volOk_deep hv
  have rI := runs_59 l h12 hsz 5 0 ⟨#[]⟩ (by decide) hd (by decide) (by decide)
  have bi : List.take (itemsG l 5 0 ⟨#[]⟩).length ((itemsG l 5 0 ⟨#[]⟩).map iRow) = (itemsG l 5 0 ⟨#[]⟩).map iRow := List.take_of_length_le (by simp)
  simp only [runH,runX,go_sem,setCells,setIn]
  refine vw_cond (t := false) rfl (fun h => nomatch h) (fun _ => ?_)
  refine vw_skip (n_then ?_)
  refine vw_go rfl ?_; simp only [go_sem,setCells,setIn]
  refine ⟨_, _, call_rx [0, 0, 0] Tryz.func59 (rI) rfl rfl rfl rfl rfl rfl rfl (by simp [lendAll,lendC,seek,fresh,nav,rcells,RT.cells,VV.cells,tabE_cons,tabS_cons,ev,take_map_len,lit,sRow_r1,sRow_comp,sRow_clean,nRow_r1,nRow_comp,nRow_clean,iRow_clean,iRow_r1]) rfl (by simp [rcells,RT.cells,CT.clean,T.clean,lit,sRow_r1,sRow_comp,sRow_clean,nRow_r1,nRow_comp,nRow_clean,iRow_clean,iRow_r1]) rfl rfl, ?_⟩
  simp only [runH,runX,go_sem,setCells,setIn]
  exact vw_ret (e_ret (ret_by rfl rfl (by simp [RB]) rfl (by simp only [takeCs,takeC,go_sem,setCells,setIn])))
end Go.Proofs.YtkijdbljnefeaaaGreatDoor
namespace Go.Proofs.YtkijdbljnefeaaaGreatDoor
open Go.VM Go
set_option maxRecDepth 100000
attribute [-go_sem] runW_cons
attribute [local congr] vw_congr runV_congr runH_congr runW_congr runX_congr stuckV_congr stuckX_congr
def putAtL (l : List It3) (i : Nat) (s : ByteArray) : List It3 := match l[i]? with | some x => l.set i (x.1, x.2.1, s) | none => l
theorem itemsV_len (l : List ByteArray) : (itemsV l).length ≤ 200000 := by
  unfold itemsV
  split
  · exact Nat.le_trans (itemsG_len l 5 0 _) (by decide)
  · exact Nat.zero_le _
theorem itemsK_size {l : List ByteArray} {g : Nat → ByteArray → List It3} {m : Nat} (hg : ∀ (k : Nat) (pre : ByteArray), ∀ x ∈ g k pre, x.1.size ≤ pre.size + m ∧ x.2.2.size ≤ 60) : ∀ (xs : List ByteArray) (ys : List Int) (pre : ByteArray), (∀ a ∈ xs, a.size ≤ 6) → ∀ x ∈ itemsK l g xs ys pre, x.1.size ≤ pre.size + (m + 7) ∧ x.2.2.size ≤ 60
  | [], ys, pre, _, x, hx => by unfold itemsK at hx; cases hx
  | a :: xs, [], pre, _, x, hx => by unfold itemsK at hx; cases hx
  | a :: xs, b :: ys, pre, hs, x, hx => by
    rw [itemsK] at hx
    have ha := hs a (List.mem_cons_self ..)
    rcases List.mem_cons.1 hx with rfl | hx
    · refine ⟨?_, (nodeRead_small _).2.2.2⟩
      simp only [ByteArray.size_append]
      omega
    rcases List.mem_append.1 hx with hx | hx
    · have h := hg _ _ x hx
      rw [ByteArray.size_append, ByteArray.size_append, show (⟨#[47]⟩ : ByteArray).size = 1 from rfl] at h
      exact ⟨by omega, h.2⟩
    · exact itemsK_size hg xs ys pre (fun y hy => hs y (List.mem_cons_of_mem _ hy)) x hx
theorem itemsG_size (l : List ByteArray) : ∀ (f k : Nat) (pre : ByteArray), ∀ x ∈ itemsG l f k pre, x.1.size ≤ pre.size + 7 * f ∧ x.2.2.size ≤ 60
  | 0, k, pre, x, hx => by unfold itemsG at hx; cases hx
  | f + 1, k, pre, x, hx => by
    rw [itemsG] at hx
    have := itemsK_size (itemsG_size l f) _ _ pre (nodeRead_small _).2.2.1 x hx
    exact ⟨by omega, this.2⟩
theorem itemsV_size (l : List ByteArray) : ∀ x ∈ itemsV l, x.1.size ≤ 100 ∧ x.2.2.size ≤ 60 := fun x hx => by
  unfold itemsV at hx
  split at hx
  · have h := itemsG_size l 5 0 _ x hx
    rw [show (⟨#[]⟩ : ByteArray).size = 0 from rfl] at h
    exact ⟨by omega, h.2⟩
  · cases hx
theorem iRow_fine (H : Value → Nat → List (List T) → Prop) (l : List It3) : fineRs H (l.map iRow) = True := eq_true (fineRs_of (iRow_clean l))
theorem rev_step {l : List It3} {i : Nat} {x : It3} (h : l[i]? = some x) : (l.drop i).reverse = (l.drop (i + 1)).reverse ++ [x] := by
  rw [drop_of h, List.reverse_cons]
def drawI (L : List UInt8) (c : Cur) : List It3 × Cur :=
  if belV L (drawRight L c).2 12 = 0 then (itemsV (drawRight L c).1 ++ [(drawBad L (byteC L (drawRight L c).2), false, ⟨#[]⟩)], byteC L (byteC L (byteC L (drawRight L c).2)))
  else if belV L (drawRight L c).2 12 = 1 then ((itemsV (drawRight L c).1).drop 1, byteC L (drawRight L c).2)
  else if belV L (drawRight L c).2 12 = 2 then (putAtL (itemsV (drawRight L c).1) 0 ⟨#[113]⟩, byteC L (drawRight L c).2)
  else if belV L (drawRight L c).2 12 = 3 then ((itemsV (drawRight L c).1).reverse, byteC L (drawRight L c).2)
  else (itemsV (drawRight L c).1, byteC L (drawRight L c).2)
set_option maxHeartbeats 1000000 in
theorem runs_18 (v : Value) (L : List UInt8) (hL : L.length < 2 ^ 60) (c : Cur) (l : List It3) (C : Cur) (hC : (l, C) = drawI L c) :
    Runs Tryz.prog 18 [.one (.box [.held v 1 (L.map bRow), .int .i64 c.i, .int .i64 c.h])] [.one (.v (.list true 3 (l.map iRow)))] [(0, ⟨true, 3, [[.held v 1 (L.map bRow), .int .i64 C.i, .int .i64 C.h]], []⟩)] := by
  refine runs_tabB (tab := [(0, .ptr 0 [] 0 0 0)]) (rts := [(0, some ⟨true, 3, [[.held v 1 (L.map bRow), .int .i64 c.i, .int .i64 c.h]], []⟩)]) (n := 53) (k := 1) Tryz.func18 rfl rfl (by simp) rfl (fun t => ?_) rfl ?_
  · rcases t with _ | t <;> rfl
  unfold drawI at hC
  have rR := runs_40 v L hL c (drawRight L c).1 (drawRight L c).2 rfl
  have hf := drawRight_fit L c
  generalize drawRight L c = r at rR hf hC
  obtain ⟨w, d⟩ := r
  simp only at rR hf hC
  have rB := runs_21 v L hL d 12 (by decide) (by decide)
  have hb := belV_in L d (n := 12) (by decide)
  generalize belV L d 12 = b at rB hC hb
  generalize byteC L d = e at rB hC
  have bw : List.take w.length (w.map sRow) = w.map sRow := List.take_of_length_le (by simp)
  have rI := runs_39 w (by rw [hf.1]; decide) (fun s hs => Nat.le_trans (hf.2 s hs) (by decide))
  have h11 := itemsV_len w
  generalize itemsV w = its at rI h11 hC
  have bi : List.take its.length (its.map iRow) = its.map iRow := List.take_of_length_le (by simp)
  refine vw_go rfl ?_; simp only [go_sem,setCells,setIn]
  refine vw_go rfl ?_; simp only [go_sem,setCells,setIn]
  refine ⟨_, _, call_pt [0] 0 Tryz.func40 (rR) rfl rfl rfl rfl rfl rfl rfl rfl (by simp [lendAll,lendC,seek,fresh,nav,rcells,RT.cells,VV.cells,tabE_cons,tabS_cons,St.put,ev,lit,take_map_len,sRow_r1,sRow_comp,sRow_clean,iRow_r1,iRow_clean,take_map_len,sRow_fine]) rfl rfl (by simp [rcells,RT.cells,CT.fine,T.fine,sRow_r1,sRow_comp,sRow_clean,iRow_r1,iRow_clean,take_map_len,sRow_fine]) (by exact ⟨.inr ⟨0, _, _, rfl, .head _, .head _⟩, trivial, trivial, trivial⟩) rfl rfl, ?_⟩
  simp only [runH,runX,bw,go_sem,setCells,setIn]
  refine ⟨_, _, call_rx [0] Tryz.func39 (rI) rfl rfl rfl rfl rfl rfl rfl (by simp [lendAll,lendC,seek,fresh,nav,rcells,RT.cells,VV.cells,tabE_cons,tabS_cons,ev,take_map_len,sRow_r1,sRow_comp,sRow_clean,iRow_r1,iRow_clean,take_map_len,bw]) rfl (by simp [rcells,RT.cells,CT.clean,T.clean,sRow_r1,sRow_comp,sRow_clean,iRow_r1,iRow_clean,take_map_len,bw]) rfl rfl, ?_⟩
  simp only [runH,runX,bi,go_sem,setCells,setIn]
  refine vw_seq ?_
  refine vw_go rfl ?_; simp only [go_sem,setCells,setIn]
  refine ⟨_, _, call_pt [0, 0] 0 Tryz.func21 (rB) rfl rfl rfl rfl rfl rfl rfl rfl (by simp [lendAll,lendC,seek,fresh,nav,rcells,RT.cells,VV.cells,tabE_cons,tabS_cons,St.put,ev,lit,take_map_len]) rfl rfl (by simp [rcells,RT.cells,CT.fine,T.fine]) (by exact ⟨.inr ⟨0, _, _, rfl, .head _, .head _⟩, trivial, trivial, trivial⟩) rfl rfl, ?_⟩
  simp only [runH,runX,bi,go_sem,setCells,setIn]
  refine vw_block ?_
  by_cases h0 : b = 0
  · rw [if_pos h0] at hC
    have rP := runs_41 v L hL e
    generalize drawBad L e = x at rP hC
    obtain ⟨rfl, rfl⟩ := hC
    subst h0
    refine vw_go rfl ?_; simp only [go_sem,setCells,setIn]
    refine vw_cond (t := true) rfl (fun _ => ?_) (fun h => nomatch h)
    have B1 : ¬ (its.length + 1 + 1) * (40 + 1) > bigRow := by simp only [bigRow]; omega
    refine vw_last rfl ?_; simp only [bi,go_sem,setCells,setIn]
    refine ⟨_, _, call_pt [0] 0 Tryz.func41 (rP) rfl rfl rfl rfl rfl rfl rfl rfl (by simp [lendAll,lendC,seek,fresh,nav,rcells,RT.cells,VV.cells,tabE_cons,tabS_cons,St.put,ev,lit,take_map_len]) rfl rfl (by simp [rcells,RT.cells,CT.fine,T.fine]) (by exact ⟨.inr ⟨0, _, _, rfl, .head _, .head _⟩, trivial, trivial, trivial⟩) rfl rfl, ?_⟩
    simp only [runH,runX,bi,B1,range1,List.replicate_succ,List.replicate_zero,List.flatten_cons,List.flatten_nil,List.range_zero,gt_iff_lt,List.drop_length,go_sem,setCells,setIn]
    refine (n_block (n_then ?_))
    have l2 : its.length + 1 ≤ (its.map iRow ++ [[T.str x, T.bool false, T.str (⟨#[]⟩ : ByteArray)]]).length := by simp
    have bd : List.take (its.length + 1) (its.map iRow ++ [[T.str x, T.bool false, T.str (⟨#[]⟩ : ByteArray)]]) = (its ++ ([(x, false, (⟨#[]⟩ : ByteArray))] : List It3)).map iRow := by rw [List.map_append]; exact List.take_of_length_le (by simp [iRow])
    refine vw_go rfl ?_; simp only [go_sem,setCells,setIn]
    exact vw_ret (e_ret (ret_b rfl rfl (by simp [RB]) rfl (by simp only [takeCs,takeC,bd,l2,List.drop_length,go_sem,setCells,setIn]; rfl) (by exact ⟨⟨by simp, _, rfl, rfl, rfl, rfl⟩, trivial⟩)))
  rw [if_neg h0] at hC
  refine vw_go rfl ?_; simp only [h0,go_sem,setCells,setIn]
  refine vw_cond (t := false) rfl (fun h => nomatch h) (fun _ => ?_)
  by_cases h1 : b = 1
  · rw [if_pos h1] at hC
    obtain ⟨rfl, rfl⟩ := hC
    subst h1
    refine vw_go rfl ?_; simp only [go_sem,setCells,setIn]
    refine vw_cond (t := true) rfl (fun _ => ?_) (fun h => nomatch h)
    refine vw_go rfl ?_; simp only [bi,go_sem,setCells,setIn]
    by_cases hp : (0 : Int) < its.length
    · refine vw_cond (t := true) (by simp [ev,tabE_cons]; omega) (fun _ => ?_) (fun h => nomatch h)
      have l1 : 1 ≤ its.length := by omega
      refine vw_last rfl ?_; simp only [l1,go_sem,setCells,setIn]
      refine (n_block (n_then ?_))
      have l2 : 1 + (its.length - 1) ≤ its.length := by omega
      have bd : List.take (its.length - 1) (List.drop 1 (its.map iRow)) = (its.drop 1).map iRow := by rw [← List.map_drop]; exact List.take_of_length_le (by simp)
      refine vw_go rfl ?_; simp only [go_sem,setCells,setIn]
      exact vw_ret (e_ret (ret_b rfl rfl (by simp [RB]) rfl (by simp only [takeCs,takeC,bd,l2,List.drop_length,go_sem,setCells,setIn]; rfl) (by exact ⟨⟨by simp, _, rfl, rfl, rfl, rfl⟩, trivial⟩)))
    · have : its = [] := List.eq_nil_of_length_eq_zero (by omega)
      subst this
      refine vw_cond (t := false) rfl (fun h => nomatch h) (fun _ => ?_)
      refine vw_skip (n_block (n_then ?_))
      refine vw_go rfl ?_; simp only [go_sem,setCells,setIn]
      exact vw_ret (e_ret (ret_b rfl rfl (by simp [RB]) rfl (by simp only [takeCs,takeC,List.drop_length,go_sem,setCells,setIn]; rfl) (by exact ⟨⟨by simp, _, rfl, rfl, rfl, rfl⟩, trivial⟩)))
  rw [if_neg h1] at hC
  refine vw_go rfl ?_; simp only [h1,go_sem,setCells,setIn]
  refine vw_cond (t := false) rfl (fun h => nomatch h) (fun _ => ?_)
  by_cases h2 : b = 2
  · rw [if_pos h2] at hC
    obtain ⟨rfl, rfl⟩ := hC
    subst h2
    refine vw_go rfl ?_; simp only [go_sem,setCells,setIn]
    refine vw_cond (t := true) rfl (fun _ => ?_) (fun h => nomatch h)
    refine vw_go rfl ?_; simp only [bi,go_sem,setCells,setIn]
    cases its with
    | nil =>
      refine vw_cond (t := false) rfl (fun h => nomatch h) (fun _ => ?_)
      refine vw_skip (n_block (n_then ?_))
      refine vw_go rfl ?_; simp only [go_sem,setCells,setIn]
      exact vw_ret (e_ret (ret_b rfl rfl (by simp [RB]) rfl (by simp only [takeCs,takeC,List.drop_length,go_sem,setCells,setIn]; rfl) (by exact ⟨⟨by simp, _, rfl, rfl, rfl, rfl⟩, trivial⟩)))
    | cons x r =>
      have hp : (0 : Int) < ((x :: r).length : Int) := by simp
      have e0 : (x :: r).map iRow = [T.str x.1, T.bool x.2.1, T.str x.2.2] :: r.map iRow := rfl
      refine vw_cond (t := true) (by simp [ev,tabE_cons,hp]) (fun _ => ?_) (fun h => nomatch h)
      have hp2 : (0 : Int) < ((r.length + 1 : Nat) : Int) := by omega
      have hp3 : 0 < r.length + 1 := Nat.succ_pos _
      refine vw_last rfl ?_; simp only [hp2,hp3,e0,List.length_cons,go_sem,setCells,setIn]
      refine (n_block (n_then ?_))
      have bd : List.take (r.length + 1) ([T.str x.1, T.bool x.2.1, T.str (⟨#[113]⟩ : ByteArray)] :: r.map iRow) = (putAtL (x :: r) 0 ⟨#[113]⟩).map iRow := List.take_of_length_le (by simp)
      refine vw_go rfl ?_; simp only [go_sem,setCells,setIn]
      exact vw_ret (e_ret (ret_b rfl rfl (by simp [RB]) rfl (by simp only [takeCs,takeC,bd,List.drop_length,List.length_cons,List.length_map,go_sem,setCells,setIn]; rfl) (by exact ⟨⟨by simp, _, rfl, rfl, rfl, rfl⟩, trivial⟩)))
  rw [if_neg h2] at hC
  refine vw_go rfl ?_; simp only [h2,go_sem,setCells,setIn]
  refine vw_cond (t := false) rfl (fun h => nomatch h) (fun _ => ?_)
  by_cases h3 : b = 3
  · rw [if_pos h3] at hC
    obtain ⟨rfl, rfl⟩ := hC
    subst h3
    refine vw_go rfl ?_; simp only [go_sem,setCells,setIn]
    refine vw_cond (t := true) rfl (fun _ => ?_) (fun h => nomatch h)
    refine vw_go rfl ?_; simp only [range1,List.replicate_succ,List.replicate_zero,List.flatten_cons,List.flatten_nil,List.range_zero,gt_iff_lt,go_sem,setCells,setIn]
    have w0 : IntKind.wrap .i64 ((its.length : Int) - 1) = (its.length : Int) - 1 := wrap_i64 (by omega) (by omega)
    refine vw_seq ?_
    refine vw_go rfl ?_; simp only [bi,w0,go_sem,setCells,setIn]
    refine vw_block ?_
    refine vw_loop_tab (α := Nat × List It3 × List Path) (fun x => x.1) (fun x => ⟨tabE [(0, .ptr 0 [] 0 0 0), (3, .al 1 [] 0 3 0 its.length), (4, .al 2 [] 0 3 0 x.2.1.length), (5, .c (.int .i64 ((x.1 : Int) - 1)))],
        tabS [(0, some ⟨true, 3, [[.held v 1 (L.map bRow), .int .i64 C.i, .int .i64 C.h]], [[], []]⟩), (1, some ⟨false, 3, its.map iRow, []⟩), (2, some ⟨false, 3, x.2.1.map iRow, x.2.2⟩)], 3⟩)
      (fun x => x.1 ≤ its.length ∧ x.2.1 = (its.drop x.1).reverse) (x := (its.length, [], [])) ?round ?h0 ?hn
    case h0 => exact ⟨Nat.le_refl _, by rw [List.drop_length]; rfl⟩
    case hn =>
      refine norm_to [(0, 0), (67585, 1), (458753, 2)] rfl ?_ ?_ <;> simp only [go_sem]
    rintro ⟨n, q, lg⟩ ⟨hn, hq⟩
    simp only at hn hq
    refine vw_seq ?_
    by_cases hc : (0 : Int) ≤ (n : Int) - 1
    case neg =>
      obtain rfl : n = 0 := by omega
      rw [List.drop_zero] at hq
      subst hq
      refine vw_go rfl ?_; simp only [hc,go_sem,setCells,setIn]
      refine vw_cond (t := false) rfl (fun h => nomatch h) (fun _ => ?_)
      refine vw_exit (x_then (x_then (x_block (n_then ?_))))
      refine vw_last rfl ?_; simp only [go_sem,setCells,setIn]
      refine (n_block (n_then ?_))
      refine vw_go rfl ?_; simp only [go_sem,setCells,setIn]
      have bl : List.take its.reverse.length (its.reverse.map iRow) = its.reverse.map iRow := List.take_of_length_le (by simp)
      exact vw_ret (e_ret (ret_b rfl rfl (by simp [RB]) rfl (by simp only [takeCs,takeC,bl,List.drop_length,go_sem,setCells,setIn]; rfl) (by exact ⟨⟨by simp, _, rfl, rfl, rfl, rfl⟩, trivial⟩)))
    obtain ⟨i, rfl⟩ : ∃ i, n = i + 1 := ⟨n - 1, by omega⟩
    obtain ⟨x, hx⟩ : ∃ x, its[i]? = some x := ⟨_, List.getElem?_eq_getElem (by omega)⟩
    have e0 : ((i + 1 : Nat) : Int) - 1 = (i : Int) := by omega
    rw [e0] at hc
    have hr := rev_step hx
    rw [← hq] at hr
    have hin : i < its.length := by omega
    have hii : (i : Int) < its.length := by omega
    have hql : q.length ≤ 200000 := by rw [hq]; simp; omega
    have bq : List.take q.length (q.map iRow) = q.map iRow := List.take_of_length_le (by simp)
    have B1 : ¬ (q.length + 1 + 1) * (40 + 1) > bigRow := by simp only [bigRow]; omega
    have w3 : IntKind.wrap .i64 ((i:Int) - 1) = (i:Int) - 1 := wrap_i64 (by omega) (by omega)
    refine vw_go rfl ?_; simp only [e0,hc,go_sem,setCells,setIn]
    refine vw_cond (t := true) rfl (fun _ => ?_) (fun h => nomatch h)
    refine vw_skip (n_then ?_)
    refine vw_seq ?_
    refine vw_block ?_
    refine vw_last rfl ?_; simp only [hc,hii,hin,Int.toNat_natCast,getD_map_of hx,iRow,B1,bq,List.drop_length,range1,List.replicate_succ,List.replicate_zero,List.flatten_cons,List.flatten_nil,List.range_zero,gt_iff_lt,go_sem,setCells,setIn]
    refine (n_block (n_then ?_))
    refine vw_last rfl ?_; simp only [w3,go_sem,setCells,setIn]
    refine (n_then ?_)
    have e4 : q.map iRow ++ [[.str x.1, .bool x.2.1, .str x.2.2]] = (q ++ [x]).map iRow := by simp [iRow]
    rw [e4]
    refine ⟨(i, q ++ [x], []), by simp only; omega, ⟨by simp only; omega, hr.symm⟩, ?_⟩
    have e5 : q.length + 1 = (q ++ [x]).length := by simp
    rw [e5]
    generalize q ++ [x] = q'
    refine norm_to [(0, 0), (1, 1), (71683, 2)] rfl ?_ ?_ <;> simp only [go_sem]
  rw [if_neg h3] at hC
  obtain ⟨rfl, rfl⟩ := hC
  refine vw_go rfl ?_; simp only [h3,go_sem,setCells,setIn]
  refine vw_cond (t := false) rfl (fun h => nomatch h) (fun _ => ?_)
  refine vw_skip (n_block (n_then ?_))
  refine vw_go rfl ?_; simp only [go_sem,setCells,setIn]
  exact vw_ret (e_ret (ret_b rfl rfl (by simp [RB]) rfl (by simp only [takeCs,takeC,bi,List.drop_length,go_sem,setCells,setIn]; rfl) (by exact ⟨⟨by simp, _, rfl, rfl, rfl, rfl⟩, trivial⟩)))
theorem drawI_fit (L : List UInt8) (c : Cur) : (drawI L c).1.length ≤ 200001 ∧ ∀ x ∈ (drawI L c).1, x.1.size ≤ 100 ∧ x.2.2.size ≤ 60 := by
  have h1 := itemsV_len (drawRight L c).1
  have h2 := itemsV_size (drawRight L c).1
  have h3 : ∀ d, (drawBad L d).size ≤ 100 := fun d => by
    unfold drawBad drawPath
    have hb : ∀ x ∈ badL, x.size ≤ 100 := by decide
    have hp : ∀ x ∈ pathL, x.size ≤ 100 := by decide
    split
    · exact hb _ (pickV_mem L _ _ (by decide))
    · exact hp _ (pickV_mem L _ _ (by decide))
  unfold drawI
  generalize itemsV (drawRight L c).1 = its at h1 h2
  split
  · refine ⟨by simp; omega, fun x hx => ?_⟩
    rcases List.mem_append.1 hx with h | h
    · exact h2 x h
    · rw [List.mem_singleton] at h; rw [h]; exact ⟨h3 _, Nat.zero_le _⟩
  split
  · exact ⟨by simp; omega, fun x hx => h2 x (List.mem_of_mem_drop hx)⟩
  split
  · unfold putAtL
    cases e : its[0]? with
    | none => exact ⟨by simp only; omega, h2⟩
    | some x =>
      refine ⟨by simp; omega, fun y hy => ?_⟩
      rcases List.mem_or_eq_of_mem_set hy with h | h
      · exact h2 y h
      · rw [h]; exact ⟨(h2 x (List.mem_of_getElem? e)).1, by simp only; decide⟩
  split
  · exact ⟨by simp; omega, fun x hx => h2 x (List.mem_reverse.1 hx)⟩
  · exact ⟨by simp only; omega, h2⟩
end Go.Proofs.YtkijdbljnefeaaaGreatDoor
