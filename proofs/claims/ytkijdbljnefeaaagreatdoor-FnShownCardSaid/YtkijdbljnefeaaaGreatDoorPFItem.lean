/- What is asked of a volume, of the reference: the small parts. What is asked of a volume, of the reference: new things, names, what is dropped. Under of both, and its law. -/
import Derived.Test.YtkijdbljnefeaaaGreatDoorPFCallB
import Derived.Test.YtkijdbljnefeaaaGreatDoorPFPut
import Derived.Test.YtkijdbljnefeaaaGreatDoorPFOp
import Derived.Test.YtkijdbljnefeaaaGreatDoorPFIn
set_option linter.unusedSimpArgs false
set_option linter.unusedVariables false
namespace Go.Proofs.YtkijdbljnefeaaaGreatDoor
open Go.VM Go
set_option maxRecDepth 100000
attribute [local congr] vw_congr runV_congr runH_congr runW_congr runX_congr stuckV_congr stuckX_congr
def freeF (l : List ByteArray) : Int := idxOf (fun s => decide (s = ⟨#[]⟩)) (l.drop 1) 1
theorem runs_148 (l : List ByteArray) (hl : l.length = 12) : Runs Tryz.prog 148 [.one (.v (.list false 1 (l.map sRow)))] [.one (.v (.int .i64 (freeF l)))] [] := by
  refine runs_tab (tab := [(0, .c (.list false 1 (l.map sRow)))]) (rts := []) (n := 21) (k := 1) Tryz.func148 rfl rfl (by simp) rfl (fun t => ?_) rfl ?_
  · cases t <;> rfl
  have hi : (l.length : Int) = 12 := by omega
  unfold freeF
  refine vw_go rfl ?_; simp only [go_sem,setCells,setIn]
  refine vw_seq ?_
  refine vw_go rfl ?_; simp only [go_sem,setCells,setIn]
  refine vw_block ?_
  refine vw_loop_tab (α := Nat) (fun x => 12 - x) (fun x => ⟨tabE [(0, .c (.list false 1 (l.map sRow))), (3, .c (.int .i64 x))], tabS [], 1⟩)
    (fun x => 1 ≤ x ∧ x ≤ 12 ∧ idxOf (fun s => decide (s = ⟨#[]⟩)) (l.drop x) x = idxOf (fun s => decide (s = ⟨#[]⟩)) (l.drop 1) 1) (x := 1) ?round ?h0 ?hn
  case h0 => exact ⟨Nat.le_refl _, by decide, rfl⟩
  case hn =>
    refine norm_to [] rfl ?_ ?_ <;> simp only [go_sem]
    · rfl
  rintro i ⟨h1, h2, hg⟩
  refine vw_seq ?_
  by_cases hc : (i : Int) < l.length
  case neg =>
    rw [List.drop_eq_nil_of_le (by omega), idxOf] at hg
    rw [← hg]
    refine vw_go rfl ?_; simp only [hc,go_sem,setCells,setIn]
    refine vw_cond (t := false) rfl (fun h => nomatch h) (fun _ => ?_)
    refine vw_exit (x_then (x_then (x_block (n_then ?_))))
    refine vw_go rfl ?_; simp only [go_sem,setCells,setIn]
    exact vw_ret (e_ret (ret_of rfl rfl (by simp [RB]) rfl rfl))
  have hin : i < l.length := by omega
  obtain ⟨s, hs⟩ : ∃ s, l[i]? = some s := ⟨_, List.getElem?_eq_getElem hin⟩
  rw [drop_of hs, idxOf] at hg
  have d0 : (0:Int) ≤ (i : Int) := by omega
  have w3 : IntKind.wrap .i64 ((i:Int) + 1) = ((i + 1 : Nat) : Int) := by rw [wrap_i64 (by omega) (by omega)]; rfl
  have hc12 : (i : Int) < 12 := by omega
  refine vw_go rfl ?_; simp only [hi,hc12,go_sem,setCells,setIn]
  refine vw_cond (t := true) rfl (fun _ => ?_) (fun h => nomatch h)
  refine vw_skip (n_then ?_)
  refine vw_seq ?_
  refine vw_block ?_
  refine vw_go rfl ?_; simp only [d0,hc,hin,Int.toNat_natCast,getD_map_of hs,sRow,go_sem,setCells,setIn]
  by_cases hz : s = ⟨#[]⟩
  · rw [if_pos (by simp [hz])] at hg
    rw [← hg]
    refine vw_cond (t := true) (by simp [ev,tabE_cons,hz]) (fun _ => ?_) (fun h => nomatch h)
    refine vw_go rfl ?_; simp only [go_sem,setCells,setIn]
    exact vw_ret (r_block (r_then (r_then (r_block (r_then (e_ret (ret_of rfl rfl (by simp [RB]) rfl rfl)))))))
  rw [if_neg (by simp [hz])] at hg
  refine vw_cond (t := false) (by simp [ev,tabE_cons,hz]) (fun h => nomatch h) (fun _ => ?_)
  refine vw_skip (n_block (n_then ?_))
  refine vw_last rfl ?_; simp only [w3,go_sem,setCells,setIn]
  refine (n_then ?_)
  refine ⟨i + 1, by omega, ⟨by omega, by omega, hg⟩, ?_⟩
  refine norm_to [] rfl ?_ ?_ <;> simp only [go_sem]
theorem runs_118 (c : Int) : Runs Tryz.prog 118 [.one (.v (.int .i64 c))] [.one (.v (.int .i64 c)), .one (.v (.str ⟨#[]⟩)), .one (.v (.list true 2 []))] [] := by
  refine runs_tab (tab := [(0, .c (.int .i64 c))]) (rts := []) (n := 7) (k := 1) Tryz.func118 rfl rfl (by simp) rfl (fun t => ?_) rfl ?_
  · cases t <;> rfl
  refine vw_go rfl ?_; simp only [go_sem,setCells,setIn]
  refine vw_go rfl ?_; simp only [List.replicate_zero,List.flatten_nil,List.range_zero,go_sem,setCells,setIn]
  exact vw_ret (e_ret (ret_by rfl rfl (by simp [RB]) rfl (by simp only [takeCs,takeC,go_sem,setCells,setIn])))
theorem range2 : List.range 2 = [0, 1] := rfl
def sortF (a b : PutV) : List PutV := if b.sector < a.sector then [b, a] else [a, b]
theorem runs_149 (a b : PutV) : Runs Tryz.prog 149 [.agg [.v (.int .i64 a.sector), .v (.str a.data)], .agg [.v (.int .i64 b.sector), .v (.str b.data)]] [.one (.v (.list true 2 ((sortF a b).map putRow)))] [] := by
  refine runs_tab (tab := [(0, .agg [.c (.int .i64 a.sector), .c (.str a.data)]), (1, .agg [.c (.int .i64 b.sector), .c (.str b.data)])]) (rts := []) (n := 16) (k := 4) Tryz.func149 rfl rfl (by simp) rfl (fun t => ?_) rfl ?_
  · rcases t with _ | _ | t <;> rfl
  unfold sortF
  refine vw_go rfl ?_; simp only [go_sem,setCells,setIn]
  refine vw_seq ?_
  by_cases h : b.sector < a.sector
  · rw [if_pos h, show [b, a].map putRow = [[.int .i64 b.sector, .str b.data], [.int .i64 a.sector, .str a.data]] from rfl]
    refine vw_go rfl ?_; simp only [h,go_sem,setCells,setIn]
    refine vw_cond (t := true) rfl (fun _ => ?_) (fun h => nomatch h)
    refine vw_go rfl ?_; simp only [range1,List.replicate_succ,List.replicate_zero,List.flatten_cons,List.flatten_nil,List.range_zero,gt_iff_lt,range2,go_sem,setCells,setIn]
    exact vw_ret (r_then (e_ret (ret_by rfl rfl (by simp [RB]) rfl (by simp only [takeCs,takeC,go_sem,setCells,setIn]))))
  rw [if_neg h, show [a, b].map putRow = [[.int .i64 a.sector, .str a.data], [.int .i64 b.sector, .str b.data]] from rfl]
  refine vw_go rfl ?_; simp only [h,go_sem,setCells,setIn]
  refine vw_cond (t := false) rfl (fun h => nomatch h) (fun _ => ?_)
  refine vw_skip (n_then ?_)
  refine vw_go rfl ?_; simp only [range1,List.replicate_succ,List.replicate_zero,List.flatten_cons,List.flatten_nil,List.range_zero,gt_iff_lt,range2,go_sem,setCells,setIn]
  exact vw_ret (e_ret (ret_by rfl rfl (by simp [RB]) rfl (by simp only [takeCs,takeC,go_sem,setCells,setIn])))
theorem runs_123 (k : Int) (n : NodeV) (hs : n.small) (hs2 : n.names.length ≤ 2 ^ 20) (hs3 : n.data.size < 2 ^ 59) : Runs Tryz.prog 123 [.one (.v (.int .i64 k)), .agg [.v (.bool n.dir), .v (.list false 1 (n.names.map sRow)), .v (.list false 1 (n.kids.map nRow)), .v (.str n.data)]] [.agg [.v (.int .i64 k), .v (.str (nodeText n))]] [] := by
  refine runs_tab (tab := [(0, .c (.int .i64 k)), (1, .agg [.c (.bool n.dir), .c (.list false 1 (n.names.map sRow)), .c (.list false 1 (n.kids.map nRow)), .c (.str n.data)])]) (rts := []) (n := 9) (k := 5) Tryz.func123 rfl rfl (by simp) rfl (fun t => ?_) rfl ?_
  · rcases t with _ | _ | t <;> rfl
  have rT := runs_116 n hs hs2 hs3
  refine vw_go rfl ?_; simp only [go_sem,setCells,setIn]
  refine vw_go rfl ?_; simp only [go_sem,setCells,setIn]
  refine ⟨_, _, call_rx [0] Tryz.func116 (rT) rfl rfl rfl rfl rfl rfl rfl (by simp [lendAll,lendC,seek,fresh,nav,rcells,RT.cells,VV.cells,tabE_cons,tabS_cons,ev,take_map_len,sRow_r1,sRow_comp,sRow_clean,nRow_r1,nRow_comp,nRow_clean]) rfl (by simp [rcells,RT.cells,CT.clean,T.clean,sRow_r1,sRow_comp,sRow_clean,nRow_r1,nRow_comp,nRow_clean]) rfl rfl, ?_⟩
  simp only [runH,runX,go_sem,setCells,setIn]
  exact vw_ret (e_ret (ret_by rfl rfl (by simp [RB]) rfl (by simp only [takeCs,takeC,go_sem,setCells,setIn])))
/-! ### the folder of a path -/
def kn (l : List ByteArray) (k : Int) : NodeV := (nodeRead (l.getD k.toNat ⟨#[]⟩)).1
def folderF (l : List ByteArray) (p : ByteArray) : Int × NodeV × ByteArray × Int :=
  if walkG l (namesZ (splitF p).1) 0 < 0 then (0, nodeZ, ⟨#[]⟩, 2)
  else if (kn l (walkG l (namesZ (splitF p).1) 0)).dir = true then (walkG l (namesZ (splitF p).1) 0, kn l (walkG l (namesZ (splitF p).1) 0), (splitF p).2.1, 0)
  else (0, nodeZ, ⟨#[]⟩, 4)
theorem walkG_in (l : List ByteArray) : ∀ (st : List ByteArray) (k : Int), 0 ≤ k → k ≤ 11 → walkG l st k = -1 ∨ (0 ≤ walkG l st k ∧ walkG l st k ≤ 11)
  | [], k, h0, h1 => .inr ⟨h0, h1⟩
  | s :: st, k, h0, h1 => by
    unfold walkG
    split
    · exact .inl rfl
    · rename_i h
      rcases kidF_in (nodeRead (l.getD k.toNat ⟨#[]⟩)).1 s with h2 | h2
      · rw [h2] at h; exact absurd (by decide) h
      · have := nodeRead_kids _ _ h2
        exact walkG_in l st _ (by omega) (by omega)
theorem splitF_size (p : ByteArray) : (splitF p).1.size ≤ p.size ∧ (splitF p).2.1.size ≤ p.size := by
  unfold splitF
  split
  · exact ⟨Nat.zero_le _, Nat.zero_le _⟩
  · split
    · exact ⟨Nat.zero_le _, Nat.le_refl _⟩
    · simp only [ByteArray.size_extract]; omega
theorem nodeRead_small (s : ByteArray) : (nodeRead s).1.names.length ≤ 11 ∧ (nodeRead s).1.kids.length ≤ 11 ∧ (∀ x ∈ (nodeRead s).1.names, x.size ≤ 6) ∧ (nodeRead s).1.data.size ≤ 60 := by
  by_cases h : (nodeRead s).2 = true
  · have hO := nodeRead_ok h
    have hl := nodeRead_len s
    refine ⟨by omega, by omega, ?_, ?_⟩
    · intro y hy
      rcases hdd : (nodeRead s).1.dir with _ | _
      · obtain ⟨h1, _⟩ := nodeOk_file hdd hO
        rw [List.eq_nil_of_length_eq_zero h1] at hy; cases hy
      · obtain ⟨_, _, h3⟩ := nodeOk_dir hdd hO
        obtain ⟨i, hi, rfl⟩ := List.getElem_of_mem hy
        have := nodeAt_out (h3 i hi)
        rw [List.getD_eq_getElem?_getD, List.getElem?_eq_getElem hi] at this
        simpa using this.1
    · rcases hdd : (nodeRead s).1.dir with _ | _
      · exact (nodeOk_file hdd hO).2.2
      · rw [(nodeOk_dir hdd hO).2.1]; decide
  · have : (nodeRead s).1 = nodeZ := by
      unfold nodeRead at h ⊢
      split
      · rfl
      · split
        · rename_i h0 h1; rw [if_neg h0, if_pos h1] at h; exact absurd rfl h
        · rfl
    rw [this]; exact ⟨Nat.zero_le _, Nat.zero_le _, fun x hx => (nomatch hx), Nat.zero_le _⟩
set_option maxHeartbeats 1000000 in
theorem runs_147 (l : List ByteArray) (hl : l.length = 12) (hsz : ∀ s ∈ l, s.size ≤ 2 ^ 20) (p : ByteArray) (hp : p.size ≤ 2 ^ 20) (R : Int × NodeV × ByteArray × Int) (hR : R = folderF l p) :
    Runs Tryz.prog 147 [.one (.v (.list false 1 (l.map sRow))), .one (.v (.str p))] [.one (.v (.int .i64 R.1)), .agg [.v (.bool R.2.1.dir), .v (.list true 1 (R.2.1.names.map sRow)), .v (.list true 1 (R.2.1.kids.map nRow)), .v (.str R.2.1.data)], .one (.v (.str R.2.2.1)), .one (.v (.int .i64 R.2.2.2))] [] := by
  refine runs_tab (tab := [(0, .c (.list false 1 (l.map sRow))), (1, .c (.str p))]) (rts := []) (n := 41) (k := 2) Tryz.func147 rfl rfl (by simp) rfl (fun t => ?_) rfl ?_
  · rcases t with _ | _ | t <;> rfl
  unfold folderF at hR
  have rS := runs_157 p hp
  have hs := splitF_size p
  generalize splitF p = S at rS hs hR
  obtain ⟨u, nm, b⟩ := S
  simp only at rS hs hR
  have rW := runs_120 l hl hsz u (by omega)
  have hw := walkG_in l (namesZ u) 0 (by decide) (by decide)
  generalize walkG l (namesZ u) 0 = k at rW hw hR
  refine vw_go rfl ?_; simp only [go_sem,setCells,setIn]
  refine vw_go rfl ?_; simp only [go_sem,setCells,setIn]
  refine ⟨_, _, call_rd [0] Tryz.func157 (rS) rfl rfl rfl rfl rfl rfl rfl rfl rfl rfl rfl rfl rfl, ?_⟩
  simp only [runH,runX,go_sem,setCells,setIn]
  refine vw_go rfl ?_; simp only [go_sem,setCells,setIn]
  refine ⟨_, _, call_rx [0, 0] Tryz.func120 (rW) rfl rfl rfl rfl rfl rfl rfl (by simp [lendAll,lendC,seek,fresh,nav,rcells,RT.cells,VV.cells,tabE_cons,tabS_cons,ev,take_map_len,sRow_r1,sRow_comp,sRow_clean,nRow_r1,nRow_comp,nRow_clean]) rfl (by simp [rcells,RT.cells,CT.clean,T.clean,sRow_r1,sRow_comp,sRow_clean,nRow_r1,nRow_comp,nRow_clean]) rfl rfl, ?_⟩
  simp only [runH,runX,go_sem,setCells,setIn]
  refine vw_seq ?_
  rcases hw with rfl | ⟨hw1, hw2⟩
  · rw [if_pos (by decide)] at hR
    subst hR
    refine vw_go rfl ?_; simp only [go_sem,setCells,setIn]
    refine vw_cond (t := true) rfl (fun _ => ?_) (fun h => nomatch h)
    refine vw_go rfl ?_; simp only [go_sem,setCells,setIn]
    unfold nodeZ
    exact vw_ret (r_then (e_ret (ret_by rfl rfl (by simp [RB]) rfl (by simp only [takeCs,takeC,go_sem,setCells,setIn]))))
  have g0 : ¬ k < 0 := by omega
  obtain ⟨k, rfl⟩ : ∃ m : Nat, k = m := ⟨k.toNat, by omega⟩
  rw [if_neg g0, kn, Int.toNat_natCast] at hR
  obtain ⟨t, ht⟩ : ∃ t, l[k]? = some t := ⟨_, List.getElem?_eq_getElem (by omega)⟩
  rw [getD_of ht] at hR
  have rR := runs_85 t (hsz t (List.mem_of_getElem? ht)) _ rfl
  have hsm := nodeRead_small t
  generalize nodeRead t = r at rR hsm hR
  obtain ⟨n, ok⟩ := r
  simp only at rR hsm hR
  have k0 : (0:Int) ≤ (k : Int) := by omega
  have k1 : (k : Int) < l.length := by omega
  have k2 : k < l.length := by omega
  have bn : List.take n.names.length (n.names.map sRow) = n.names.map sRow := List.take_of_length_le (by simp)
  have bk : List.take n.kids.length (n.kids.map nRow) = n.kids.map nRow := List.take_of_length_le (by simp)
  refine vw_go rfl ?_; simp only [g0,go_sem,setCells,setIn]
  refine vw_cond (t := false) rfl (fun h => nomatch h) (fun _ => ?_)
  refine vw_skip (n_then ?_)
  refine vw_go rfl ?_; simp only [k0,k1,k2,Int.toNat_natCast,getD_map_of ht,sRow,go_sem,setCells,setIn]
  refine ⟨_, _, call_rx [0] Tryz.func85 (rR) rfl rfl rfl rfl rfl rfl rfl (by simp [lendAll,lendC,seek,fresh,nav,rcells,RT.cells,VV.cells,tabE_cons,tabS_cons,ev,take_map_len,sRow_r1,sRow_comp,sRow_clean,nRow_r1,nRow_comp,nRow_clean]) rfl (by simp [rcells,RT.cells,CT.clean,T.clean,sRow_r1,sRow_comp,sRow_clean,nRow_r1,nRow_comp,nRow_clean]) rfl rfl, ?_⟩
  simp only [runH,runX,bn,bk,go_sem,setCells,setIn]
  refine vw_seq ?_
  refine vw_go rfl ?_; simp only [go_sem,setCells,setIn]
  cases hd : n.dir
  · rw [hd, if_neg (by decide)] at hR
    subst hR
    refine vw_cond (t := true) rfl (fun _ => ?_) (fun h => nomatch h)
    refine vw_go rfl ?_; simp only [go_sem,setCells,setIn]
    unfold nodeZ
    exact vw_ret (r_then (e_ret (ret_by rfl rfl (by simp [RB]) rfl (by simp only [takeCs,takeC,go_sem,setCells,setIn]))))
  rw [hd, if_pos rfl] at hR
  subst hR
  refine vw_cond (t := false) rfl (fun h => nomatch h) (fun _ => ?_)
  refine vw_skip (n_then ?_)
  refine vw_draw mixed rfl rfl ?_; simp only [bn,bk,List.drop_length,go_sem,setCells,setIn]
  refine ⟨by unfold allOk; kernel_rfl, ?_⟩
  simp only [hd]
  exact vw_ret (e_ret (ret_by rfl rfl (by simp [RB]) rfl (by simp only [takeCs,takeC,go_sem,setCells,setIn])))
end Go.Proofs.YtkijdbljnefeaaaGreatDoor
namespace Go.Proofs.YtkijdbljnefeaaaGreatDoor
open Go.VM Go
set_option maxRecDepth 100000
attribute [-go_sem] runW_cons
attribute [local congr] vw_congr runV_congr runH_congr runW_congr runX_congr stuckV_congr stuckX_congr
abbrev Told3 := Int × ByteArray × List PutV
def none3 (c : Int) : Told3 := (c, ⟨#[]⟩, [])
def putF (k : Int) (n : NodeV) : PutV := ⟨k, nodeText n⟩
def newF (l : List ByteArray) (o : OpV) : Told3 :=
  if 0 ≤ walkG l (namesZ o.path) 0 then none3 3
  else if (folderF l o.path).2.2.2 ≠ 0 then none3 (folderF l o.path).2.2.2
  else if freeF l < 0 then none3 5
  else (0, ⟨#[]⟩, sortF (putF (folderF l o.path).1 (kidPutF (folderF l o.path).2.1 (folderF l o.path).2.2.1 (freeF l))) (putF (freeF l) ⟨decide (o.kind = 2), [], [], ⟨#[]⟩⟩))
theorem putLoop_len (s : ByteArray) (k : Int) : ∀ (b : Bool) (xs : List ByteArray) (ys : List Int), xs.length = ys.length → (putLoop s k b xs ys).1.length ≤ xs.length + 1 ∧ (putLoop s k b xs ys).1.length = (putLoop s k b xs ys).2.length
  | true, xs, ys, h => by unfold putLoop; exact ⟨Nat.le_succ _, h⟩
  | false, [], [], _ => ⟨Nat.le_refl _, rfl⟩
  | false, a :: xs, b :: ys, h => by
    have := putLoop_len s k false xs ys (by simpa using h)
    unfold putLoop
    split
    · exact ⟨by simp, by simpa using h⟩
    · simp only [List.length_cons]; omega
theorem putLoop_mem (s : ByteArray) (k : Int) : ∀ (b : Bool) (xs : List ByteArray) (ys : List Int), ∀ x ∈ (putLoop s k b xs ys).1, x ∈ xs ∨ x = s
  | true, xs, ys, x, hx => .inl (by simpa [putLoop] using hx)
  | false, [], ys, x, hx => .inr (by cases ys <;> simpa [putLoop] using hx)
  | false, a :: xs, [], x, hx => .inr (by simpa [putLoop] using hx)
  | false, a :: xs, b :: ys, x, hx => by
    unfold putLoop at hx
    split at hx
    · rcases List.mem_cons.1 hx with h | h
      · exact .inr h
      · exact .inl h
    · rcases List.mem_cons.1 hx with h | h
      · exact .inl (h ▸ List.mem_cons_self)
      · rcases putLoop_mem s k false xs ys x h with h | h
        · exact .inl (List.mem_cons_of_mem _ h)
        · exact .inr h
/-- A node that is small. -/
structure NodeV.fit (n : NodeV) : Prop where
  len : n.names.length = n.kids.length
  few : n.names.length ≤ 100
  text : ∀ x ∈ n.names, x.size ≤ 2 ^ 20
  data : n.data.size ≤ 2 ^ 20
theorem NodeV.fit.drop {n : NodeV} (h : n.fit) (s : ByteArray) : (kidDropF n s).fit :=
  ⟨skipN_len _ _ _ _ h.len, Nat.le_trans (skipN_le _ _ _) h.few, fun x hx => h.text x (skipN_mem _ _ _ x hx), h.data⟩
theorem NodeV.fit.put {n : NodeV} (h : n.fit) (hf : n.names.length ≤ 90) (s : ByteArray) (hs : s.size ≤ 2 ^ 20) (k : Int) : (kidPutF n s k).fit := by
  have hd := h.drop s
  have h1 := putLoop_len s k false _ _ hd.len
  have h2 := skipN_le (kidIx n.names n.kids s 0) n.names 0
  refine ⟨h1.2, ?_, fun x hx => ?_, h.data⟩
  · have : (kidDropF n s).names.length ≤ n.names.length := h2
    have : (kidPutF n s k).names.length ≤ (kidDropF n s).names.length + 1 := h1.1
    omega
  · rcases putLoop_mem s k false _ _ x hx with h | h
    · exact hd.text x h
    · rw [h]; exact hs
theorem NodeV.fit.small {n : NodeV} (h : n.fit) : n.small := ⟨by have := h.few; omega, by have := h.few; have := h.len; omega, fun s hs => by have := h.text s hs; omega⟩
theorem kn_fit (l : List ByteArray) (k : Int) : (kn l k).fit ∧ (kn l k).names.length ≤ 11 := by
  obtain ⟨a, b, c, d⟩ := nodeRead_small (l.getD k.toNat ⟨#[]⟩)
  have e := nodeRead_len (l.getD k.toNat ⟨#[]⟩)
  exact ⟨⟨e.2, Nat.le_trans a (by decide), fun x hx => Nat.le_trans (c x hx) (by decide), Nat.le_trans d (by decide)⟩, a⟩
theorem nodeZ_fit : nodeZ.fit := ⟨rfl, Nat.zero_le _, fun x hx => (nomatch hx), Nat.zero_le _⟩
theorem folderF_fit (l : List ByteArray) (p : ByteArray) : (folderF l p).2.1.fit ∧ (folderF l p).2.1.names.length ≤ 11 ∧ (folderF l p).2.2.1.size ≤ p.size := by
  unfold folderF
  split
  · exact ⟨nodeZ_fit, Nat.zero_le _, Nat.zero_le _⟩
  · split
    · exact ⟨(kn_fit _ _).1, (kn_fit _ _).2, (splitF_size p).2⟩
    · exact ⟨nodeZ_fit, Nat.zero_le _, Nat.zero_le _⟩
theorem text_fit {n : NodeV} (h : n.fit) (k : Int) : Runs Tryz.prog 123 [.one (.v (.int .i64 k)), .agg [.v (.bool n.dir), .v (.list false 1 (n.names.map sRow)), .v (.list false 1 (n.kids.map nRow)), .v (.str n.data)]] [.agg [.v (.int .i64 k), .v (.str (nodeText n))]] [] :=
  runs_123 k n h.small (by have := h.few; omega) (by have := h.data; omega)
set_option maxHeartbeats 1000000 in
theorem runs_119 (l : List ByteArray) (hl : l.length = 12) (hsz : ∀ s ∈ l, s.size ≤ 2 ^ 20) (o : OpV) (hp : o.path.size ≤ 2 ^ 20) (R : Told3) (hR : R = newF l o) :
    Runs Tryz.prog 119 [.one (.v (.list false 1 (l.map sRow))), .agg [.v (.int .i64 o.kind), .v (.str o.path), .v (.str o.to), .v (.str o.data)]] [.one (.v (.int .i64 R.1)), .one (.v (.str R.2.1)), .one (.v (.list true 2 (R.2.2.map putRow)))] [] := by
  refine runs_tab (tab := [(0, .c (.list false 1 (l.map sRow))), (1, .agg [.c (.int .i64 o.kind), .c (.str o.path), .c (.str o.to), .c (.str o.data)])]) (rts := []) (n := 58) (k := 5) Tryz.func119 rfl rfl (by simp) rfl (fun t => ?_) rfl ?_
  · rcases t with _ | _ | t <;> rfl
  unfold newF none3 putF at hR
  have rW := runs_120 l hl hsz o.path hp
  have rF := runs_147 l hl hsz o.path hp _ rfl
  have rN := runs_148 l hl
  obtain ⟨f1, f2, f3⟩ := folderF_fit l o.path
  generalize walkG l (namesZ o.path) 0 = w at rW hR
  generalize folderF l o.path = F at rF f1 f2 f3 hR
  generalize freeF l = fr at rN hR
  obtain ⟨k, n, nm, code⟩ := F
  simp only at rF f1 f2 f3 hR
  have bn : List.take n.names.length (n.names.map sRow) = n.names.map sRow := List.take_of_length_le (by simp)
  have bk : List.take n.kids.length (n.kids.map nRow) = n.kids.map nRow := List.take_of_length_le (by simp)
  refine vw_go rfl ?_; simp only [go_sem,setCells,setIn]
  refine vw_seq ?_
  refine vw_go rfl ?_; simp only [go_sem,setCells,setIn]
  refine ⟨_, _, call_rx [0, 0] Tryz.func120 (rW) rfl rfl rfl rfl rfl rfl rfl (by simp [lendAll,lendC,seek,fresh,nav,rcells,RT.cells,VV.cells,tabE_cons,tabS_cons,ev,take_map_len,sRow_r1,sRow_comp,sRow_clean,nRow_r1,nRow_comp,nRow_clean,putRow_clean]) rfl (by simp [rcells,RT.cells,CT.clean,T.clean,sRow_r1,sRow_comp,sRow_clean,nRow_r1,nRow_comp,nRow_clean,putRow_clean]) rfl rfl, ?_⟩
  simp only [runH,runX,go_sem,setCells,setIn]
  by_cases h0 : 0 ≤ w
  · rw [if_pos h0] at hR
    subst hR
    refine vw_cond (t := true) (by simp [ev,tabE_cons,h0]) (fun _ => ?_) (fun h => nomatch h)
    refine vw_go rfl ?_; simp only [go_sem,setCells,setIn]
    refine ⟨_, _, call_rx [0] Tryz.func118 (runs_118 3) rfl rfl rfl rfl rfl rfl rfl (by simp [lendAll,lendC,seek,fresh,nav,rcells,RT.cells,VV.cells,tabE_cons,tabS_cons,ev,take_map_len,lit,cleanRs]) rfl (by simp [rcells,RT.cells,CT.clean,T.clean,lit,cleanRs]) rfl rfl, ?_⟩
    simp only [runH,runX,go_sem,setCells,setIn]
    exact vw_ret (r_then (e_ret (ret_by rfl rfl (by simp [RB]) rfl (by simp only [takeCs,takeC,go_sem,setCells,setIn]))))
  rw [if_neg h0] at hR
  refine vw_cond (t := false) (by simp [ev,tabE_cons,h0]) (fun h => nomatch h) (fun _ => ?_)
  refine vw_skip (n_then ?_)
  refine vw_go rfl ?_; simp only [go_sem,setCells,setIn]
  refine ⟨_, _, call_rx [0, 0] Tryz.func147 (rF) rfl rfl rfl rfl rfl rfl rfl (by simp [lendAll,lendC,seek,fresh,nav,rcells,RT.cells,VV.cells,tabE_cons,tabS_cons,ev,take_map_len,sRow_r1,sRow_comp,sRow_clean,nRow_r1,nRow_comp,nRow_clean,putRow_clean]) rfl (by simp [rcells,RT.cells,CT.clean,T.clean,sRow_r1,sRow_comp,sRow_clean,nRow_r1,nRow_comp,nRow_clean,putRow_clean]) rfl rfl, ?_⟩
  simp only [runH,runX,bn,bk,go_sem,setCells,setIn]
  refine vw_seq ?_
  by_cases h1 : code = 0
  case neg =>
    rw [if_pos h1] at hR
    subst hR
    refine vw_go rfl ?_; simp only [h1,go_sem,setCells,setIn]
    refine vw_cond (t := true) rfl (fun _ => ?_) (fun h => nomatch h)
    refine vw_go rfl ?_; simp only [go_sem,setCells,setIn]
    refine ⟨_, _, call_rx [0] Tryz.func118 (runs_118 code) rfl rfl rfl rfl rfl rfl rfl (by simp [lendAll,lendC,seek,fresh,nav,rcells,RT.cells,VV.cells,tabE_cons,tabS_cons,ev,take_map_len,lit,cleanRs]) rfl (by simp [rcells,RT.cells,CT.clean,T.clean,lit,cleanRs]) rfl rfl, ?_⟩
    simp only [runH,runX,go_sem,setCells,setIn]
    exact vw_ret (r_then (e_ret (ret_by rfl rfl (by simp [RB]) rfl (by simp only [takeCs,takeC,go_sem,setCells,setIn]))))
  rw [if_neg (fun h => h h1)] at hR
  refine vw_go rfl ?_; simp only [h1,go_sem,setCells,setIn]
  refine vw_cond (t := false) rfl (fun h => nomatch h) (fun _ => ?_)
  refine vw_skip (n_then ?_)
  refine vw_go rfl ?_; simp only [go_sem,setCells,setIn]
  refine ⟨_, _, call_rx [0] Tryz.func148 (rN) rfl rfl rfl rfl rfl rfl rfl (by simp [lendAll,lendC,seek,fresh,nav,rcells,RT.cells,VV.cells,tabE_cons,tabS_cons,ev,take_map_len,sRow_r1,sRow_comp,sRow_clean,nRow_r1,nRow_comp,nRow_clean,putRow_clean]) rfl (by simp [rcells,RT.cells,CT.clean,T.clean,sRow_r1,sRow_comp,sRow_clean,nRow_r1,nRow_comp,nRow_clean,putRow_clean]) rfl rfl, ?_⟩
  simp only [runH,runX,go_sem,setCells,setIn]
  refine vw_seq ?_
  by_cases h2 : fr < 0
  · rw [if_pos h2] at hR
    subst hR
    refine vw_go rfl ?_; simp only [h2,go_sem,setCells,setIn]
    refine vw_cond (t := true) rfl (fun _ => ?_) (fun h => nomatch h)
    refine vw_go rfl ?_; simp only [go_sem,setCells,setIn]
    refine ⟨_, _, call_rx [0] Tryz.func118 (runs_118 5) rfl rfl rfl rfl rfl rfl rfl (by simp [lendAll,lendC,seek,fresh,nav,rcells,RT.cells,VV.cells,tabE_cons,tabS_cons,ev,take_map_len,lit,cleanRs]) rfl (by simp [rcells,RT.cells,CT.clean,T.clean,lit,cleanRs]) rfl rfl, ?_⟩
    simp only [runH,runX,go_sem,setCells,setIn]
    exact vw_ret (r_then (e_ret (ret_by rfl rfl (by simp [RB]) rfl (by simp only [takeCs,takeC,go_sem,setCells,setIn]))))
  rw [if_neg h2] at hR
  subst hR
  have rK := runs_150 n f1.len (by omega) nm fr _ rfl
  have hfp := f1.put (by omega) nm (by omega) fr
  generalize kidPutF n nm fr = m at rK hfp
  have rA := text_fit hfp k
  have hz : (⟨decide (o.kind = 2), [], [], ⟨#[]⟩⟩ : NodeV).fit := ⟨rfl, Nat.zero_le _, fun x hx => (nomatch hx), Nat.zero_le _⟩
  have rB := text_fit hz fr
  have rS := runs_149 ⟨k, nodeText m⟩ ⟨fr, nodeText ⟨decide (o.kind = 2), [], [], ⟨#[]⟩⟩⟩
  simp only [List.map_nil] at rB rS
  have bn2 : List.take m.names.length (m.names.map sRow) = m.names.map sRow := List.take_of_length_le (by simp)
  have bk2 : List.take m.kids.length (m.kids.map nRow) = m.kids.map nRow := List.take_of_length_le (by simp)
  refine vw_go rfl ?_; simp only [h2,go_sem,setCells,setIn]
  refine vw_cond (t := false) rfl (fun h => nomatch h) (fun _ => ?_)
  refine vw_skip (n_then ?_)
  refine vw_drawA mixed rfl rfl ?_; intro A hAA
  simp (maxSteps := 1000000) only [bn, bk, List.drop_length, go_sem, setCells, setIn, runW_step]
  refine ⟨_, _, _, call_rx_at [0, 0, 0] [140293] Tryz.func150 (rK) rfl rfl rfl rfl rfl rfl rfl (fun st1 hst1 => by (try simp only [List.mem_cons,List.not_mem_nil,or_false,false_or,forall_eq_or_imp,forall_eq] at hst1); simp [lendAll,lendC,seek,fresh,nav,rcells,RT.cells,VV.cells,tabE_cons,tabS_cons,ev,take_map_len,hst1,sRow_r1,sRow_comp,sRow_clean,nRow_r1,nRow_comp,nRow_clean,putRow_clean,bn,bk]) rfl (by simp [rcells,RT.cells,CT.clean,T.clean,sRow_r1,sRow_comp,sRow_clean,nRow_r1,nRow_comp,nRow_clean,putRow_clean,bn,bk]) rfl rfl, ?_⟩
  (unfold runX; simp (maxSteps := 1000000) only [bn, bk, bn2, bk2, List.drop_length, go_sem, setCells, setIn, runW_step])
  refine ⟨_, _, _, call_rx_at [0, 0] [397318, 397319] Tryz.func123 (rA) rfl rfl rfl rfl rfl rfl rfl (fun st1 hst1 => by (try simp only [List.mem_cons,List.not_mem_nil,or_false,false_or,forall_eq_or_imp,forall_eq] at hst1); simp [lendAll,lendC,seek,fresh,nav,rcells,RT.cells,VV.cells,tabE_cons,tabS_cons,ev,take_map_len,hst1,sRow_r1,sRow_comp,sRow_clean,nRow_r1,nRow_comp,nRow_clean,putRow_clean,bn2,bk2]) rfl (by simp [rcells,RT.cells,CT.clean,T.clean,sRow_r1,sRow_comp,sRow_clean,nRow_r1,nRow_comp,nRow_clean,putRow_clean,bn2,bk2]) rfl rfl, ?_⟩
  (unfold runX; simp (maxSteps := 1000000) only [List.drop_length, go_sem, setCells, setIn, runW_step])
  refine ⟨_, _, _, call_rx_at [0, 0] [] Tryz.func123 (rB) rfl rfl rfl rfl rfl rfl rfl (fun st1 hst1 => by (try simp only [List.mem_cons,List.not_mem_nil,or_false,false_or,forall_eq_or_imp,forall_eq] at hst1); simp [lendAll,lendC,seek,fresh,nav,rcells,RT.cells,VV.cells,tabE_cons,tabS_cons,ev,take_map_len,hst1,sRow_r1,sRow_comp,sRow_clean,nRow_r1,nRow_comp,nRow_clean,putRow_clean,lit]) rfl (by simp [rcells,RT.cells,CT.clean,T.clean,sRow_r1,sRow_comp,sRow_clean,nRow_r1,nRow_comp,nRow_clean,putRow_clean,lit]) rfl rfl, ?_⟩
  (unfold runX; simp (maxSteps := 1000000) only [List.drop_length, go_sem, setCells, setIn, runW_step])
  refine ⟨_, _, _, call_rx_at [0, 0] [] Tryz.func149 (rS) rfl rfl rfl rfl rfl rfl rfl (fun st1 hst1 => by (try simp only [List.mem_cons,List.not_mem_nil,or_false,false_or,forall_eq_or_imp,forall_eq] at hst1); simp [lendAll,lendC,seek,fresh,nav,rcells,RT.cells,VV.cells,tabE_cons,tabS_cons,ev,take_map_len,hst1,sRow_r1,sRow_comp,sRow_clean,nRow_r1,nRow_comp,nRow_clean,putRow_clean]) rfl (by simp [rcells,RT.cells,CT.clean,T.clean,sRow_r1,sRow_comp,sRow_clean,nRow_r1,nRow_comp,nRow_clean,putRow_clean]) rfl rfl, ?_⟩
  (unfold runX; simp (maxSteps := 1000000) only [List.drop_length, go_sem, setCells, setIn, runW_step])
  refine ⟨by subst hAA; unfold allOk; kernel_rfl, ?_⟩
  exact vw_ret (e_ret (ret_by rfl rfl (by simp [RB]) rfl (by simp only [takeCs,takeC,go_sem,setCells,setIn])))
/-! ### what is dropped -/
def dropF (l : List ByteArray) (o : OpV) (at_ : Int) (n : NodeV) : Told3 :=
  if o.path = ⟨#[]⟩ ∨ 0 < n.names.length then none3 6
  else (0, ⟨#[]⟩, sortF (putF (folderF l o.path).1 (kidDropF (folderF l o.path).2.1 (folderF l o.path).2.2.1)) ⟨at_, ⟨#[]⟩⟩)
set_option maxHeartbeats 1000000 in
theorem runs_121 (l : List ByteArray) (hl : l.length = 12) (hsz : ∀ s ∈ l, s.size ≤ 2 ^ 20) (o : OpV) (hp : o.path.size ≤ 2 ^ 20) (at_ : Int) (n : NodeV) (R : Told3) (hR : R = dropF l o at_ n) :
    Runs Tryz.prog 121 [.one (.v (.list false 1 (l.map sRow))), .agg [.v (.int .i64 o.kind), .v (.str o.path), .v (.str o.to), .v (.str o.data)], .one (.v (.int .i64 at_)), .agg [.v (.bool n.dir), .v (.list false 1 (n.names.map sRow)), .v (.list false 1 (n.kids.map nRow)), .v (.str n.data)]] [.one (.v (.int .i64 R.1)), .one (.v (.str R.2.1)), .one (.v (.list true 2 (R.2.2.map putRow)))] [] := by
  refine runs_tab (tab := [(0, .c (.list false 1 (l.map sRow))), (1, .agg [.c (.int .i64 o.kind), .c (.str o.path), .c (.str o.to), .c (.str o.data)]), (2, .c (.int .i64 at_)), (3, .agg [.c (.bool n.dir), .c (.list false 1 (n.names.map sRow)), .c (.list false 1 (n.kids.map nRow)), .c (.str n.data)])]) (rts := []) (n := 45) (k := 10) Tryz.func121 rfl rfl (by simp) rfl (fun t => ?_) rfl ?_
  · rcases t with _ | _ | _ | _ | t <;> rfl
  unfold dropF none3 putF at hR
  have rF := runs_147 l hl hsz o.path hp _ rfl
  obtain ⟨f1, f2, f3⟩ := folderF_fit l o.path
  generalize folderF l o.path = F at rF f1 f2 f3 hR
  obtain ⟨k, w, nm, code⟩ := F
  simp only at rF f1 f2 f3 hR
  have bn : List.take w.names.length (w.names.map sRow) = w.names.map sRow := List.take_of_length_le (by simp)
  have bk : List.take w.kids.length (w.kids.map nRow) = w.kids.map nRow := List.take_of_length_le (by simp)
  refine vw_go rfl ?_; simp only [go_sem,setCells,setIn]
  refine vw_seq ?_
  by_cases hz : o.path = ⟨#[]⟩
  · rw [if_pos (.inl hz)] at hR
    subst hR
    have hz' : decide (o.path = ⟨#[]⟩) = true := by simp [hz]
    refine vw_go rfl ?_; simp only [hz',go_sem,setCells,setIn]
    refine vw_cond (t := true) rfl (fun _ => ?_) (fun h => nomatch h)
    refine vw_go rfl ?_; simp only [go_sem,setCells,setIn]
    refine ⟨_, _, call_rx [0] Tryz.func118 (runs_118 6) rfl rfl rfl rfl rfl rfl rfl (by simp [lendAll,lendC,seek,fresh,nav,rcells,RT.cells,VV.cells,tabE_cons,tabS_cons,ev,take_map_len,lit,cleanRs]) rfl (by simp [rcells,RT.cells,CT.clean,T.clean,lit,cleanRs]) rfl rfl, ?_⟩
    simp only [runH,runX,go_sem,setCells,setIn]
    exact vw_ret (r_then (e_ret (ret_by rfl rfl (by simp [RB]) rfl (by simp only [takeCs,takeC,go_sem,setCells,setIn]))))
  have hz' : decide (o.path = ⟨#[]⟩) = false := by simp [hz]
  by_cases h1 : (0 : Int) < n.names.length
  · rw [if_pos (.inr (by omega))] at hR
    subst hR
    refine vw_go rfl ?_; simp only [hz',h1,go_sem,setCells,setIn]
    refine vw_cond (t := true) rfl (fun _ => ?_) (fun h => nomatch h)
    refine vw_go rfl ?_; simp only [go_sem,setCells,setIn]
    refine ⟨_, _, call_rx [0] Tryz.func118 (runs_118 6) rfl rfl rfl rfl rfl rfl rfl (by simp [lendAll,lendC,seek,fresh,nav,rcells,RT.cells,VV.cells,tabE_cons,tabS_cons,ev,take_map_len,lit,cleanRs]) rfl (by simp [rcells,RT.cells,CT.clean,T.clean,lit,cleanRs]) rfl rfl, ?_⟩
    simp only [runH,runX,go_sem,setCells,setIn]
    exact vw_ret (r_then (e_ret (ret_by rfl rfl (by simp [RB]) rfl (by simp only [takeCs,takeC,go_sem,setCells,setIn]))))
  rw [if_neg (by rintro (h | h); exact hz h; omega)] at hR
  subst hR
  have rK := runs_152 w f1.len (by omega) nm _ rfl
  have hfp := f1.drop nm
  generalize kidDropF w nm = m at rK hfp
  have rA := text_fit hfp k
  have rS := runs_149 ⟨k, nodeText m⟩ ⟨at_, ⟨#[]⟩⟩
  simp only at rS
  have bn2 : List.take m.names.length (m.names.map sRow) = m.names.map sRow := List.take_of_length_le (by simp)
  have bk2 : List.take m.kids.length (m.kids.map nRow) = m.kids.map nRow := List.take_of_length_le (by simp)
  refine vw_go rfl ?_; simp only [hz',h1,go_sem,setCells,setIn]
  refine vw_cond (t := false) rfl (fun h => nomatch h) (fun _ => ?_)
  refine vw_skip (n_then ?_)
  refine vw_go rfl ?_; simp only [go_sem,setCells,setIn]
  refine ⟨_, _, call_rx [0, 0] Tryz.func147 (rF) rfl rfl rfl rfl rfl rfl rfl (by simp [lendAll,lendC,seek,fresh,nav,rcells,RT.cells,VV.cells,tabE_cons,tabS_cons,ev,take_map_len,sRow_r1,sRow_comp,sRow_clean,nRow_r1,nRow_comp,nRow_clean,putRow_clean]) rfl (by simp [rcells,RT.cells,CT.clean,T.clean,sRow_r1,sRow_comp,sRow_clean,nRow_r1,nRow_comp,nRow_clean,putRow_clean]) rfl rfl, ?_⟩
  simp only [runH,runX,bn,bk,go_sem,setCells,setIn]
  refine vw_go rfl ?_; simp only [bn,bk,List.drop_length,go_sem,setCells,setIn]
  refine ⟨_, _, call_rx [0, 0] Tryz.func152 (rK) rfl rfl rfl rfl rfl rfl rfl (by simp [lendAll,lendC,seek,fresh,nav,rcells,RT.cells,VV.cells,tabE_cons,tabS_cons,ev,take_map_len,sRow_r1,sRow_comp,sRow_clean,nRow_r1,nRow_comp,nRow_clean,putRow_clean,bn,bk]) rfl (by simp [rcells,RT.cells,CT.clean,T.clean,sRow_r1,sRow_comp,sRow_clean,nRow_r1,nRow_comp,nRow_clean,putRow_clean,bn,bk]) rfl rfl, ?_⟩
  simp only [runH,runX,bn2,bk2,go_sem,setCells,setIn]
  refine ⟨_, _, call_rx [0, 0] Tryz.func123 (rA) rfl rfl rfl rfl rfl rfl rfl (by simp [lendAll,lendC,seek,fresh,nav,rcells,RT.cells,VV.cells,tabE_cons,tabS_cons,ev,take_map_len,sRow_r1,sRow_comp,sRow_clean,nRow_r1,nRow_comp,nRow_clean,putRow_clean,bn2,bk2]) rfl (by simp [rcells,RT.cells,CT.clean,T.clean,sRow_r1,sRow_comp,sRow_clean,nRow_r1,nRow_comp,nRow_clean,putRow_clean,bn2,bk2]) rfl rfl, ?_⟩
  simp only [runH,runX,go_sem,setCells,setIn]
  refine ⟨_, _, call_rx [0, 0] Tryz.func149 (rS) rfl rfl rfl rfl rfl rfl rfl (by simp [lendAll,lendC,seek,fresh,nav,rcells,RT.cells,VV.cells,tabE_cons,tabS_cons,ev,take_map_len,sRow_r1,sRow_comp,sRow_clean,nRow_r1,nRow_comp,nRow_clean,putRow_clean,lit]) rfl (by simp [rcells,RT.cells,CT.clean,T.clean,sRow_r1,sRow_comp,sRow_clean,nRow_r1,nRow_comp,nRow_clean,putRow_clean,lit]) rfl rfl, ?_⟩
  simp only [runH,runX,go_sem,setCells,setIn]
  exact vw_ret (e_ret (ret_by rfl rfl (by simp [RB]) rfl (by simp only [takeCs,takeC,go_sem,setCells,setIn])))
/-! ### what may be asked -/
def opOk (o : OpV) : Bool := inB o.kind 1 7 && (pathOk o.path && (decide ((o.data.size : Int) ≤ 60) && (decide (¬ o.kind = 6) || pathOk o.to)))
theorem runs_117 (o : OpV) (hp : o.path.size ≤ 2 ^ 20) (ht : o.to.size ≤ 2 ^ 20) : Runs Tryz.prog 117 [.agg [.v (.int .i64 o.kind), .v (.str o.path), .v (.str o.to), .v (.str o.data)]] [.one (.v (.bool (opOk o)))] [] := by
  refine runs_tab (tab := [(0, .agg [.c (.int .i64 o.kind), .c (.str o.path), .c (.str o.to), .c (.str o.data)])]) (rts := []) (n := 27) (k := 4) Tryz.func117 rfl rfl (by simp) rfl (fun t => ?_) rfl ?_
  · cases t <;> rfl
  unfold opOk
  refine vw_go rfl ?_; simp only [go_sem,setCells,setIn]
  refine vw_go rfl ?_; simp only [go_sem,setCells,setIn]
  refine ⟨_, _, call_rx [0, 0, 0] Tryz.func26 (runs_26 o.kind 1 7) rfl rfl rfl rfl rfl rfl rfl (by simp [lendAll,lendC,seek,fresh,nav,rcells,RT.cells,VV.cells,tabE_cons,tabS_cons,ev,take_map_len,lit]) rfl (by simp [rcells,RT.cells,CT.clean,T.clean,lit]) rfl rfl, ?_⟩
  cases inB o.kind 1 7
  · simp only [runH,runX,go_sem,setCells,setIn]
    exact vw_ret (e_ret (ret_of rfl rfl (by simp [RB]) rfl rfl))
  simp only [runH,runX,go_sem,setCells,setIn]
  refine ⟨_, _, call_rx [0] Tryz.func55 (runs_55 o.path hp) rfl rfl rfl rfl rfl rfl rfl (by simp [lendAll,lendC,seek,fresh,nav,rcells,RT.cells,VV.cells,tabE_cons,tabS_cons,ev,take_map_len,sRow_r1,sRow_comp,sRow_clean,nRow_r1,nRow_comp,nRow_clean,putRow_clean]) rfl (by simp [rcells,RT.cells,CT.clean,T.clean,sRow_r1,sRow_comp,sRow_clean,nRow_r1,nRow_comp,nRow_clean,putRow_clean]) rfl rfl, ?_⟩
  cases pathOk o.path
  · simp only [runH,runX,go_sem,setCells,setIn]
    exact vw_ret (e_ret (ret_of rfl rfl (by simp [RB]) rfl rfl))
  by_cases h1 : (o.data.size : Int) ≤ 60
  case neg =>
    simp only [runH,runX,h1,go_sem,setCells,setIn]
    exact vw_ret (e_ret (ret_of rfl rfl (by simp [RB]) rfl rfl))
  by_cases h2 : o.kind = 6
  case neg =>
    simp only [runH,runX,h1,h2,go_sem,setCells,setIn]
    exact vw_ret (e_ret (ret_of rfl rfl (by simp [RB]) rfl rfl))
  simp only [runH,runX,h1,h2,go_sem,setCells,setIn]
  refine ⟨_, _, call_rx [0] Tryz.func55 (runs_55 o.to ht) rfl rfl rfl rfl rfl rfl rfl (by simp [lendAll,lendC,seek,fresh,nav,rcells,RT.cells,VV.cells,tabE_cons,tabS_cons,ev,take_map_len,sRow_r1,sRow_comp,sRow_clean,nRow_r1,nRow_comp,nRow_clean,putRow_clean]) rfl (by simp [rcells,RT.cells,CT.clean,T.clean,sRow_r1,sRow_comp,sRow_clean,nRow_r1,nRow_comp,nRow_clean,putRow_clean]) rfl rfl, ?_⟩
  simp only [runH,runX,go_sem,setCells,setIn]
  exact vw_ret (e_ret (ret_of rfl rfl (by simp [RB]) rfl rfl))
end Go.Proofs.YtkijdbljnefeaaaGreatDoor
namespace Go.Proofs.YtkijdbljnefeaaaGreatDoor
open Go.VM
set_option maxRecDepth 100000
attribute [local congr] vw_congr runV_congr runH_congr runW_congr runX_congr stuckV_congr stuckX_congr
def preB (p q : ByteArray) : Bool := decide ((q.size : Int) < p.size) && decide (p.extract 0 q.size = q) && decide (((p.data.toList.getD q.size 0).toNat : Int) = 47)
def underB (p q : ByteArray) : Bool := pathOk p && (pathOk q && (decide (q = ⟨#[]⟩) || (decide (p = q) || preB p q)))
theorem add_bytes (a b : ByteArray) : (a ++ b).data.toList = a.data.toList ++ b.data.toList := by
  rw [ByteArray.data_append, Array.toList_append]
theorem add_size (a b : ByteArray) : (a ++ b).size = a.size + b.size := by
  rw [← bs_len, add_bytes, List.length_append, bs_len, bs_len]
theorem runs_153 (p q : ByteArray) (hp : p.size ≤ 2 ^ 20) (hq : q.size ≤ 2 ^ 20) : Runs Tryz.prog 153 [.one (.v (.str p)), .one (.v (.str q))] [.one (.v (.bool (underB p q)))] [] := by
  refine runs_tab (tab := [(0, .c (.str p)), (1, .c (.str q))]) (rts := []) (n := 42) (k := 2) Tryz.func153 rfl rfl (by simp) rfl (fun t => ?_) rfl ?_
  · rcases t with _ | _ | t <;> rfl
  refine vw_go rfl ?_; simp only [go_sem,setCells,setIn]
  refine vw_seq ?_
  refine vw_go rfl ?_; simp only [go_sem,setCells,setIn]
  refine ⟨_, _, call_rd [0] Tryz.func55 (runs_55 p hp) rfl rfl rfl rfl rfl rfl rfl rfl rfl rfl rfl rfl rfl, ?_⟩
  cases h1 : pathOk p
  · simp only [runH,runX,go_sem,setCells,setIn]
    refine vw_cond (t := true) rfl (fun h => ?_) (fun h => ?_)
    case refine_2 => cases h
    refine vw_go rfl ?_; simp only [go_sem,setCells,setIn]
    rw [show underB p q = false from by simp [underB,h1]]
    exact vw_ret (r_then (e_ret (ret_of rfl rfl (by simp [RB]) rfl rfl)))
  simp only [runH,runX,go_sem,setCells,setIn]
  refine ⟨_, _, call_rd [0] Tryz.func55 (runs_55 q hq) rfl rfl rfl rfl rfl rfl rfl rfl rfl rfl rfl rfl rfl, ?_⟩
  cases h2 : pathOk q
  · simp only [runH,runX,go_sem,setCells,setIn]
    refine vw_cond (t := true) rfl (fun h => ?_) (fun h => ?_)
    case refine_2 => cases h
    refine vw_go rfl ?_; simp only [go_sem,setCells,setIn]
    rw [show underB p q = false from by simp [underB,h2]]
    exact vw_ret (r_then (e_ret (ret_of rfl rfl (by simp [RB]) rfl rfl)))
  simp only [runH,runX,go_sem,setCells,setIn]
  refine vw_cond (t := false) rfl (fun h => ?_) (fun h => ?_)
  · cases h
  refine vw_skip (n_then ?_)
  refine vw_go rfl ?_; simp only [go_sem,setCells,setIn]
  cases a1 : decide (q = ⟨#[]⟩)
  case true =>
    refine vw_go rfl ?_; simp only [a1,go_sem,setCells,setIn]
    rw [show underB p q = true from by simp only [underB,h1,h2,a1,Bool.true_and,Bool.true_or]]
    exact vw_ret (e_ret (ret_of rfl rfl (by simp [RB]) rfl rfl))
  cases a2 : decide (p = q)
  case true =>
    refine vw_go rfl ?_; simp only [a1,a2,go_sem,setCells,setIn]
    rw [show underB p q = true from by simp only [underB,h1,h2,a1,a2,Bool.true_and,Bool.true_or,Bool.or_true]]
    exact vw_ret (e_ret (ret_of rfl rfl (by simp [RB]) rfl rfl))
  have hu : underB p q = preB p q := by simp only [underB,h1,h2,a1,a2,Bool.true_and,Bool.false_or]
  rw [hu]
  by_cases a3 : (q.size : Int) < p.size
  case neg =>
    refine vw_go rfl ?_; simp only [a1,a2,a3,go_sem,setCells,setIn]
    rw [show preB p q = false from by simp only [preB,decide_eq_false a3,Bool.false_and]]
    exact vw_ret (e_ret (ret_of rfl rfl (by simp [RB]) rfl rfl))
  have c1 : (0:Int) ≤ (q.size : Int) := by omega
  have c2 : 0 ≤ q.size ∧ q.size ≤ p.size := by omega
  cases a4 : decide (p.extract 0 q.size = q)
  case false =>
    refine vw_go rfl ?_; simp only [a1,a2,a3,a4,c1,c2,Int.toNat_natCast,go_sem,setCells,setIn]
    rw [show preB p q = false from by simp only [preB,decide_eq_true a3,a4,Bool.false_and,Bool.true_and]]
    exact vw_ret (e_ret (ret_of rfl rfl (by simp [RB]) rfl rfl))
  refine vw_go rfl ?_; simp only [a1,a2,a3,a4,c1,c2,Int.toNat_natCast,go_sem,setCells,setIn]
  rw [show preB p q = decide (((p.data.toList.getD q.size 0).toNat : Int) = 47) from by simp only [preB,decide_eq_true a3,a4,Bool.true_and]]
  exact vw_ret (e_ret (ret_of rfl rfl (by simp [RB]) rfl rfl))
end Go.Proofs.YtkijdbljnefeaaaGreatDoor
namespace Go.Proofs.YtkijdbljnefeaaaGreatDoor
open Go.VM
set_option maxRecDepth 100000
attribute [local congr] vw_congr runV_congr runH_congr runW_congr runX_congr stuckV_congr stuckX_congr
abbrev It3 := ByteArray × Bool × ByteArray
def iRow (x : It3) : List T := [.str x.1, .bool x.2.1, .str x.2.2]
theorem iRow_r1 (x : It3) : (iRow x).map T.toRO = iRow x := by simp [iRow]
theorem iRow_clean (l : List It3) : cleanRs (l.map iRow) = true := clean_map (fun x => rfl) l
end Go.Proofs.YtkijdbljnefeaaaGreatDoor
