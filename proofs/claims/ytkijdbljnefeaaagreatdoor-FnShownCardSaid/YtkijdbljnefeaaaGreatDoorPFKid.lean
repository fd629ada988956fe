/- Nodes: NodeRead of both, NodeAt of both. Nodes: NodeRead of the program, NodeAt of both. Nodes: NodeAt of both. Nodes: which number a name has, of the reference. -/
import Derived.Test.YtkijdbljnefeaaaGreatDoorPFNodeI
import Derived.Test.YtkijdbljnefeaaaGreatDoorPFIn
set_option linter.unusedSimpArgs false
set_option linter.unusedVariables false
namespace Go.Proofs.YtkijdbljnefeaaaGreatDoor
open Go.VM Go
set_option maxRecDepth 100000
attribute [local congr] vw_congr runV_congr runH_congr runW_congr runX_congr stuckV_congr stuckX_congr
theorem take_snocR {α β : Type} (f : α → β) (l : List α) (x : β) : List.take (l.length + 1) (l.map f ++ [x]) = l.map f ++ [x] := List.take_of_length_le (by simp)
theorem drop_snocR {α : Type} (l : List α) (x : α) : List.drop (l.length + 1) (l ++ [x]) = [] := List.drop_eq_nil_of_le (by simp)
def chr (s : ByteArray) (i : Nat) : UInt8 := s.data.toList.getD i 0
def nrGo (s : ByteArray) : Nat → Nat → Nat → List ByteArray → List Int → List ByteArray × List Int
  | 0, _, _, a, b => (a, b)
  | n + 1, i, fr, a, b => if i + 1 < s.size then (if chr s i = 61 then nrGo s n (i + 2) (i + 2) (a ++ [s.extract fr i]) (b ++ [((chr s (i + 1)).toNat : Int) - 48]) else nrGo s n (i + 1) fr a b) else (a, b)
theorem nrGo_end {s : ByteArray} {n i fr : Nat} {a : List ByteArray} {b : List Int} (h : ¬ i + 1 < s.size) : nrGo s n i fr a b = (a, b) := by
  cases n with
  | zero => rfl
  | succ n => rw [nrGo, if_neg h]
def nodeZ : NodeV := ⟨false, [], [], ⟨#[]⟩⟩
def nodeRaw (s : ByteArray) : NodeV := if chr s 0 = 102 then ⟨false, [], [], s.extract 1 s.size⟩ else ⟨true, (nrGo s s.size 1 1 [] []).1, (nrGo s s.size 1 1 [] []).2, ⟨#[]⟩⟩
def nodeRead (s : ByteArray) : NodeV × Bool := if s.size = 0 then (nodeZ, false) else if nodeText (nodeRaw s) = s then (nodeRaw s, true) else (nodeZ, false)
/-- What stands in the node before its text is compared. -/
structure RawFit (s : ByteArray) (z : NodeV) : Prop where
  names : z.names.length ≤ 2 ^ 20
  kids : z.kids.length ≤ 2 ^ 20
  text : ∀ x ∈ z.names, x.size ≤ 2 ^ 20
  data : z.data.size ≤ 2 ^ 20
  yes : nodeText z = s → nodeRead s = (z, true)
  no : nodeText z ≠ s → nodeRead s = (nodeZ, false)
theorem RawFit.small {s : ByteArray} {z : NodeV} (h : RawFit s z) : z.small :=
  ⟨Nat.lt_of_le_of_lt h.names (by decide), Nat.lt_of_le_of_lt h.kids (by decide), fun x hx => Nat.lt_of_le_of_lt (h.text x hx) (by decide)⟩
theorem fit_raw {s : ByteArray} (h0 : s.size ≠ 0) {z : NodeV} (hz : z = nodeRaw s) (h1 : z.names.length ≤ 2 ^ 20) (h2 : z.kids.length ≤ 2 ^ 20) (h3 : ∀ x ∈ z.names, x.size ≤ 2 ^ 20) (h4 : z.data.size ≤ 2 ^ 20) : RawFit s z :=
  ⟨h1, h2, h3, h4, fun h => by subst hz; unfold nodeRead; rw [if_neg h0, if_pos h], fun h => by subst hz; unfold nodeRead; rw [if_neg h0, if_neg h]⟩
theorem size0 {s : ByteArray} : s = ⟨#[]⟩ ↔ s.size = 0 := by
  constructor
  · intro h; rw [h]; rfl
  · intro h; apply ByteArray.ext; exact Array.eq_empty_of_size_eq_zero h
set_option maxHeartbeats 1000000 in
theorem runs_85 (s : ByteArray) (hs : s.size ≤ 2 ^ 20) (R : NodeV × Bool) (hR : R = nodeRead s) : Runs Tryz.prog 85 [.one (.v (.str s))] [.agg [.v (.bool R.1.dir), .v (.list true 1 (R.1.names.map sRow)), .v (.list true 1 (R.1.kids.map nRow)), .v (.str R.1.data)], .one (.v (.bool R.2))] [] := by
  refine runs_tab (tab := [(0, .c (.str s))]) (rts := []) (n := 59) (k := 1) Tryz.func85 rfl rfl (by simp) rfl (fun t => ?_) rfl ?_
  · rcases t with _ | t <;> rfl
  refine vw_go rfl ?_; simp only [go_sem,setCells,setIn]
  refine vw_go rfl ?_; simp only [go_sem,setCells,setIn]
  refine vw_seq ?_
  by_cases h0 : s = ⟨#[]⟩
  · have e : nodeRead s = (nodeZ, false) := by unfold nodeRead; rw [if_pos (size0.1 h0)]
    rw [e] at hR
    subst hR
    refine vw_go rfl ?_; simp only [h0,go_sem,setCells,setIn]
    refine vw_cond (t := true) rfl (fun _ => ?_) (fun h => nomatch h)
    refine vw_go rfl ?_; simp only [List.drop_length,go_sem,setCells,setIn]
    exact vw_ret (r_then (e_ret (ret_by rfl rfl (by simp [RB]) rfl (by simp only [takeCs,takeC,go_sem,setCells,setIn]; rfl))))
  refine vw_go rfl ?_; simp only [h0,go_sem,setCells,setIn]
  refine vw_cond (t := false) rfl (fun h => nomatch h) (fun _ => ?_)
  refine vw_skip (n_then ?_)
  have hz : s.size ≠ 0 := fun e => h0 (size0.2 e)
  have hz1 : (0:Int) < (s.size : Int) := by omega
  refine vw_join (α := NodeV × List Path) (fun z => ⟨tabE [(0, .c (.str s)), (2, .ptr 1 [] 0 0 0), (4, .ptr 2 [] 0 0 0)], tabS [(1, some ⟨true, 4, [[.bool false, .list true 1 [], .list true 1 [], .str ⟨#[]⟩]], []⟩), (2, some ⟨true, 4, [[.bool z.1.dir, .list true 1 (z.1.names.map sRow), .list true 1 (z.1.kids.map nRow), .str z.1.data]], z.2⟩)], 3⟩)
    (fun z => RawFit s z.1) ?_ ?_
  · (refine vw_go rfl ?_; simp only [hz1,Int.reduceToNat,go_sem,setCells,setIn])
    have hch : s.data.toList.getD 0 0 = chr s 0 := rfl
    rw [hch]
    by_cases h1 : chr s 0 = 102
    · rw [h1]
      refine vw_cond (t := true) rfl (fun _ => ?_) (fun h => nomatch h)
      have hz2 : 1 ≤ s.size := by omega
      refine vw_last rfl ?_; simp only [hz2,Int.reduceToNat,go_sem,setCells,setIn]
      refine (n_then ⟨(⟨false, [], [], s.extract 1 s.size⟩, [[(0, 1)], [(0, 2)]]), ?_, ?_⟩)
      · exact fit_raw hz (by unfold nodeRaw; rw [if_pos h1]) (Nat.zero_le _) (Nat.zero_le _) (fun x hx => nomatch hx) (by simp only [ByteArray.size_extract]; omega)
      refine norm_to [(1, 1), (66561, 2)] rfl ?_ ?_ <;> simp only [go_sem]
    have h1n : ¬ ((chr s 0).toNat : Int) = 102 := by
      intro e
      refine h1 (UInt8.toNat_inj.1 ?_)
      show (chr s 0).toNat = 102
      omega
    refine vw_cond (t := false) (by simp only [ev,tabE_cons,decide_eq_false h1n]; rfl) (fun h => nomatch h) (fun _ => ?_)
    refine vw_go rfl ?_; simp only [go_sem,setCells,setIn]
    refine vw_go rfl ?_; simp only [go_sem,setCells,setIn]
    refine vw_go rfl ?_; simp only [go_sem,setCells,setIn]
    refine vw_block ?_
    refine vw_loop_tab (α := Nat × Nat × Nat × List ByteArray × List Int × List Path) (fun x => s.size - x.1) (fun x => ⟨tabE [(0, .c (.str s)), (2, .ptr 1 [] 0 0 0), (4, .ptr 2 [] 0 0 0), (5, .c (.int .i64 x.2.1)), (6, .c (.int .i64 x.1))],
        tabS [(1, some ⟨true, 4, [[.bool false, .list true 1 [], .list true 1 [], .str ⟨#[]⟩]], []⟩), (2, some ⟨true, 4, [[.bool true, .list true 1 (x.2.2.2.1.map sRow), .list true 1 (x.2.2.2.2.1.map nRow), .str ⟨#[]⟩]], x.2.2.2.2.2⟩)], 3⟩)
      (fun x => nrGo s x.2.2.1 x.1 x.2.1 x.2.2.2.1 x.2.2.2.2.1 = nrGo s s.size 1 1 [] [] ∧ s.size ≤ x.2.2.1 + x.1 ∧ x.2.1 ≤ x.1 ∧ x.1 ≤ s.size ∧ x.2.2.2.1.length ≤ x.1 ∧ x.2.2.2.2.1.length ≤ x.1 ∧ (∀ y ∈ x.2.2.2.1, y.size ≤ 2 ^ 20)) (x := (1, 1, s.size, [], [], [[(0, 1)], [(0, 2)]])) ?round ?h0 ?hn
    case h0 => exact ⟨rfl, by simp only; omega, Nat.le_refl _, by simp only; omega, Nat.zero_le _, Nat.zero_le _, fun x hx => nomatch hx⟩
    case hn =>
      refine norm_to [(1, 1), (66561, 2)] rfl ?_ ?_ <;> simp only [go_sem]
      · rfl
    rintro ⟨i, fr, n, a, b, lg⟩ ⟨hg, hn, hfr, hi1, hla, hlb, hta⟩
    simp only at hg hn hfr hi1 hla hlb hta
    have w3 : IntKind.wrap .i64 ((i:Int) + 1) = ((i + 1 : Nat) : Int) := by rw [wrap_i64 (by omega) (by omega)]; rfl
    refine vw_seq ?_
    by_cases hc : ((i + 1 : Nat) : Int) < s.size
    case neg =>
      refine vw_go rfl ?_; simp only [w3,hc,go_sem,setCells,setIn]
      refine vw_cond (t := false) rfl (fun h => nomatch h) (fun _ => ?_)
      refine vw_exit (x_then (x_then (x_block (n_then ⟨(⟨true, a, b, ⟨#[]⟩⟩, lg), ?_, ?_⟩))))
      · rw [nrGo_end (by omega)] at hg
        refine fit_raw hz (by unfold nodeRaw; rw [if_neg h1, ← hg]) (by simp only; omega) (by simp only; omega) hta (Nat.zero_le _)
      refine norm_to [(1, 1), (2, 2)] rfl ?_ ?_ <;> simp only [go_sem]
    have c0 : (0:Int) ≤ (i : Int) := by omega
    have c1 : (i : Int) < s.size := by omega
    have c2 : (0:Int) ≤ ((i + 1 : Nat) : Int) := by omega
    have c3 : fr ≤ i := hfr
    have c4 : i ≤ s.size := by omega
    obtain ⟨m, rfl⟩ : ∃ m, n = m + 1 := ⟨n - 1, by omega⟩
    rw [nrGo, if_pos (by omega)] at hg
    have ht0 : s.data.toList.getD i 0 = chr s i := rfl
    have ht1 : s.data.toList.getD (i + 1) 0 = chr s (i + 1) := rfl
    refine vw_go rfl ?_; simp only [w3,hc,go_sem,setCells,setIn]
    refine vw_cond (t := true) rfl (fun _ => ?_) (fun h => nomatch h)
    refine vw_skip (n_then ?_)
    refine vw_seq ?_
    refine vw_block ?_
    refine vw_go rfl ?_; simp only [c0,c1,Int.toNat_natCast,ht0,go_sem,setCells,setIn]
    by_cases he : chr s i = 61
    · rw [if_pos he] at hg
      have hen : ((chr s i).toNat : Int) = 61 := by rw [he]; rfl
      have B1 : ¬ (a.length + 1 + 1) * (16 + 1) > bigRow := by simp only [bigRow]; omega
      have B2 : ¬ (b.length + 1 + 1) * (8 + 1) > bigRow := by simp only [bigRow]; omega
      have bt : List.take a.length (a.map sRow) = a.map sRow := List.take_of_length_le (by simp)
      have bt2 : List.take b.length (b.map nRow) = b.map nRow := List.take_of_length_le (by simp)
      have w4 : IntKind.wrap .i64 (((chr s (i + 1)).toNat : Int)) = ((chr s (i + 1)).toNat : Int) := by have := (chr s (i + 1)).toNat_lt; exact wrap_i64 (by omega) (by omega)
      have w5 : IntKind.wrap .i64 (((chr s (i + 1)).toNat : Int) - 48) = ((chr s (i + 1)).toNat : Int) - 48 := by have := (chr s (i + 1)).toNat_lt; exact wrap_i64 (by omega) (by omega)
      have w6 : IntKind.wrap .i64 ((i:Int) + 2) = ((i + 2 : Nat) : Int) := by rw [wrap_i64 (by omega) (by omega)]; rfl
      have w7 : IntKind.wrap .i64 (((i + 1 : Nat):Int) + 1) = ((i + 2 : Nat) : Int) := by rw [wrap_i64 (by omega) (by omega)]; rfl
      have c5 : (0:Int) ≤ (fr : Int) := by omega
      refine vw_cond (t := true) (by simp only [ev,tabE_cons,hen]; rfl) (fun _ => ?_) (fun h => nomatch h)
      refine vw_draw mixed rfl rfl ?_; simp only [B1,c0,c1,c3,c4,c5,Int.toNat_natCast,bt,List.drop_length,List.length_append,range1,List.replicate_succ,List.replicate_zero,List.flatten_cons,List.flatten_nil,List.range_zero,gt_iff_lt,take_snocR,go_sem,setCells,setIn]
      refine ⟨by unfold allOk; kernel_rfl, ?_⟩
      refine vw_draw mixed rfl rfl ?_; simp only [B2,w3,w4,w5,c2,hc,Int.toNat_natCast,ht1,bt2,List.drop_length,drop_snocR,List.length_append,range1,List.replicate_succ,List.replicate_zero,List.flatten_cons,List.flatten_nil,List.range_zero,gt_iff_lt,take_snocR,go_sem,setCells,setIn]
      refine ⟨by unfold allOk; kernel_rfl, ?_⟩
      refine vw_go rfl ?_; simp only [w6,go_sem,setCells,setIn]
      refine vw_last rfl ?_; simp only [w3,go_sem,setCells,setIn]
      refine (n_block (n_then ?_))
      refine vw_last rfl ?_; simp only [w7,go_sem,setCells,setIn]
      refine (n_then ?_)
      have e4 : a.map sRow ++ [[.str (s.extract fr i)]] = (a ++ [s.extract fr i]).map sRow := by simp [sRow]
      have e5 : b.map nRow ++ [[.int .i64 (((chr s (i + 1)).toNat : Int) - 48)]] = (b ++ [((chr s (i + 1)).toNat : Int) - 48]).map nRow := by simp
      have hla' : (a ++ [s.extract fr i]).length ≤ i + 2 := by simp only [List.length_append,List.length_cons,List.length_nil]; omega
      have hlb' : (b ++ [((chr s (i + 1)).toNat : Int) - 48]).length ≤ i + 2 := by simp only [List.length_append,List.length_cons,List.length_nil]; omega
      have hta' : ∀ y ∈ a ++ [s.extract fr i], y.size ≤ 2 ^ 20 := by
        intro y hy
        rcases List.mem_append.1 hy with h | h
        · exact hta y h
        · rw [List.mem_singleton] at h
          rw [h, ByteArray.size_extract]; omega
      rw [e4, e5]
      generalize a ++ [s.extract fr i] = a' at hg hla' hta'
      generalize b ++ [((chr s (i + 1)).toNat : Int) - 48] = b' at hg hlb'
      refine ⟨(i + 2, i + 2, m, a', b', lg ++ [[(0, 1)]] ++ [[(0, 2)]]), by simp only; omega, ⟨hg, by simp only; omega, Nat.le_refl _, by simp only; omega, hla', hlb', hta'⟩, ?_⟩
      refine norm_to [(1, 1), (2, 2)] rfl ?_ ?_ <;> simp only [go_sem]
    rw [if_neg he] at hg
    have hen : ¬ ((chr s i).toNat : Int) = 61 := by
      intro e
      refine he (UInt8.toNat_inj.1 ?_)
      show (chr s i).toNat = 61
      omega
    refine vw_cond (t := false) (by simp only [ev,tabE_cons,decide_eq_false hen]; rfl) (fun h => nomatch h) (fun _ => ?_)
    refine vw_skip (n_block (n_then ?_))
    refine vw_last rfl ?_; simp only [w3,go_sem,setCells,setIn]
    refine (n_then ?_)
    refine ⟨(i + 1, fr, m, a, b, lg), by simp only; omega, ⟨hg, by simp only; omega, by simp only; omega, by simp only; omega, by simp only; omega, by simp only; omega, hta⟩, ?_⟩
    refine norm_to [(1, 1), (2, 2)] rfl ?_ ?_ <;> simp only [go_sem]
  rintro ⟨z, lg⟩ hf
  simp only at hf
  have bt : List.take z.names.length (z.names.map sRow) = z.names.map sRow := List.take_of_length_le (by simp)
  have bt2 : List.take z.kids.length (z.kids.map nRow) = z.kids.map nRow := List.take_of_length_le (by simp)
  have rT := runs_116 z hf.small hf.names (Nat.lt_of_le_of_lt hf.data (by decide))
  refine vw_seq ?_
  refine vw_go rfl ?_; simp only [List.drop_length,bt,bt2,go_sem,setCells,setIn]
  refine ⟨_, _, call_rx [0] Tryz.func116 (rT) rfl rfl rfl rfl rfl rfl rfl (by simp [lendAll,lendC,seek,fresh,nav,rcells,RT.cells,VV.cells,tabE_cons,tabS_cons,ev,take_map_len,sRow_r1,sRow_comp,sRow_clean,nRow_r1,nRow_comp,nRow_clean,bt,bt2,List.drop_length]) rfl (by simp [rcells,RT.cells,CT.clean,T.clean,sRow_r1,sRow_comp,sRow_clean,nRow_r1,nRow_comp,nRow_clean,bt,bt2,List.drop_length]) rfl rfl, ?_⟩
  simp only [runH,runX,go_sem,setCells,setIn]
  by_cases ht : nodeText z = s
  · rw [hf.yes ht] at hR
    subst hR
    refine vw_cond (t := false) (by simp [ev,tabE_cons,ht]) (fun h => nomatch h) (fun _ => ?_)
    refine vw_skip (n_then ?_)
    refine vw_go rfl ?_; simp only [List.drop_length,bt,bt2,go_sem,setCells,setIn]
    exact vw_ret (e_ret (ret_by rfl rfl (by simp [RB]) rfl (by simp only [takeCs,takeC,go_sem,setCells,setIn])))
  rw [hf.no ht] at hR
  subst hR
  refine vw_cond (t := true) (by simp [ev,tabE_cons,ht]) (fun _ => ?_) (fun h => nomatch h)
  refine vw_go rfl ?_; simp only [List.drop_length,go_sem,setCells,setIn]
  exact vw_ret (r_then (e_ret (ret_by rfl rfl (by simp [RB]) rfl (by simp only [takeCs,takeC,go_sem,setCells,setIn]; rfl))))
end Go.Proofs.YtkijdbljnefeaaaGreatDoor
namespace Go.Proofs.YtkijdbljnefeaaaGreatDoor
open Go.VM Go
set_option maxRecDepth 100000
attribute [local congr] vw_congr runV_congr runH_congr runW_congr runX_congr stuckV_congr stuckX_congr
def kidIx : List ByteArray → List Int → ByteArray → Nat → Int
  | a :: xs, _ :: ys, s, i => if a = s then (i : Int) else kidIx xs ys s (i + 1)
  | _, _, _, _ => -1
def kidF (n : NodeV) (s : ByteArray) : Int := if kidIx n.names n.kids s 0 < 0 then -1 else n.kids.getD (kidIx n.names n.kids s 0).toNat 0
theorem kidIx_in : ∀ (xs : List ByteArray) (ys : List Int) (s : ByteArray) (i : Nat), kidIx xs ys s i = -1 ∨ ∃ j : Nat, kidIx xs ys s i = ((i + j : Nat) : Int) ∧ j < ys.length ∧ j < xs.length
  | [], ys, s, i => .inl (by unfold kidIx; rfl)
  | a :: xs, [], s, i => .inl (by unfold kidIx; rfl)
  | a :: xs, b :: ys, s, i => by
    unfold kidIx
    split
    · exact .inr ⟨0, rfl, by simp, by simp⟩
    · rcases kidIx_in xs ys s (i + 1) with h | ⟨j, h1, h2, h3⟩
      · exact .inl h
      · exact .inr ⟨j + 1, by rw [h1]; omega, by simpa using h2, by simpa using h3⟩
theorem kidF_in (n : NodeV) (s : ByteArray) : kidF n s = -1 ∨ kidF n s ∈ n.kids := by
  unfold kidF
  rcases kidIx_in n.names n.kids s 0 with h | ⟨j, h1, h2, _⟩
  · rw [h]; exact .inl rfl
  · rw [h1, Nat.zero_add, if_neg (by omega), Int.toNat_natCast, List.getD_eq_getElem?_getD, List.getElem?_eq_getElem h2]
    exact .inr (List.getElem_mem _)
theorem runs_158 (n : NodeV) (h1 : n.names.length < 2 ^ 60) (h2 : n.kids.length < 2 ^ 60) (s : ByteArray) :
    Runs Tryz.prog 158 [.agg [.v (.bool n.dir), .v (.list false 1 (n.names.map sRow)), .v (.list false 1 (n.kids.map nRow)), .v (.str n.data)], .one (.v (.str s))] [.one (.v (.int .i64 (kidIx n.names n.kids s 0)))] [] := by
  refine runs_tab (tab := [(0, .agg [.c (.bool n.dir), .c (.list false 1 (n.names.map sRow)), .c (.list false 1 (n.kids.map nRow)), .c (.str n.data)]), (1, .c (.str s))]) (rts := []) (n := 28) (k := 5) Tryz.func158 rfl rfl (by simp) rfl (fun t => ?_) rfl ?_
  · rcases t with _ | _ | t <;> rfl
  refine vw_go rfl ?_; simp only [go_sem,setCells,setIn]
  refine vw_seq ?_
  refine vw_go rfl ?_; simp only [go_sem,setCells,setIn]
  refine vw_block ?_
  refine vw_loop_tab (α := Nat) (fun x => n.names.length - x) (fun x => ⟨tabE [(1, .c (.str s)), (2, .ptr 5 [] 0 0 0), (5, .c (.int .i64 x))], tabS [(5, some ⟨true, 4, [[.bool n.dir, .list false 1 (n.names.map sRow), .list false 1 (n.kids.map nRow), .str n.data]], []⟩)], 6⟩)
    (fun x => x ≤ n.names.length ∧ kidIx (n.names.drop x) (n.kids.drop x) s x = kidIx n.names n.kids s 0) (x := 0) ?round ?h0 ?hn
  case h0 => exact ⟨Nat.zero_le _, rfl⟩
  case hn => (refine norm_to [(5, 5)] rfl ?_ ?_ <;> simp only [go_sem])
  rintro i ⟨hi, hg⟩
  refine vw_seq ?_
  by_cases hc : (i : Int) < n.names.length
  case neg =>
    rw [List.drop_eq_nil_of_le (show n.names.length ≤ i by omega)] at hg
    have e : kidIx [] (n.kids.drop i) s i = -1 := by unfold kidIx; rfl
    rw [← hg, e]
    refine vw_go rfl ?_; simp only [hc,go_sem,setCells,setIn]
    refine vw_cond (t := false) rfl (fun h => nomatch h) (fun _ => ?_)
    refine vw_exit (x_then (x_then (x_block (n_then ?_))))
    refine vw_go rfl ?_; simp only [go_sem,setCells,setIn]
    exact vw_ret (e_ret (ret_of rfl rfl (by simp [RB]) rfl rfl))
  have hin : i < n.names.length := by omega
  by_cases hk : (i : Int) < n.kids.length
  case neg =>
    rw [List.drop_eq_nil_of_le (show n.kids.length ≤ i by omega), List.drop_eq_getElem_cons hin] at hg
    have e : ∀ a xs, kidIx (a :: xs) [] s i = -1 := fun a xs => by unfold kidIx; rfl
    rw [← hg, e]
    refine vw_go rfl ?_; simp only [hc,hk,go_sem,setCells,setIn]
    refine vw_cond (t := false) rfl (fun h => nomatch h) (fun _ => ?_)
    refine vw_exit (x_then (x_then (x_block (n_then ?_))))
    refine vw_go rfl ?_; simp only [go_sem,setCells,setIn]
    exact vw_ret (e_ret (ret_of rfl rfl (by simp [RB]) rfl rfl))
  have hik : i < n.kids.length := by omega
  obtain ⟨a, ha⟩ : ∃ a, n.names[i]? = some a := ⟨_, List.getElem?_eq_getElem hin⟩
  have hda : n.names.drop i = a :: n.names.drop (i + 1) := by
    rw [List.drop_eq_getElem_cons hin]
    congr 1
    rw [List.getElem?_eq_getElem hin] at ha
    exact Option.some.inj ha
  rw [hda, List.drop_eq_getElem_cons hik, kidIx] at hg
  have d0 : (0:Int) ≤ (i : Int) := by omega
  have w3 : IntKind.wrap .i64 ((i:Int) + 1) = ((i + 1 : Nat) : Int) := by rw [wrap_i64 (by omega) (by omega)]; rfl
  refine vw_go rfl ?_; simp only [hc,hk,go_sem,setCells,setIn]
  refine vw_cond (t := true) rfl (fun _ => ?_) (fun h => nomatch h)
  refine vw_skip (n_then ?_)
  refine vw_seq ?_
  refine vw_block ?_
  refine vw_go rfl ?_; simp only [d0,hc,Int.toNat_natCast,getD_map_of ha,sRow,go_sem,setCells,setIn]
  by_cases has : a = s
  · rw [if_pos has] at hg
    rw [← hg]
    refine vw_cond (t := true) (by simp [ev,tabE_cons,has]) (fun _ => ?_) (fun h => nomatch h)
    refine vw_go rfl ?_; simp only [go_sem,setCells,setIn]
    exact vw_ret (r_block (r_then (r_then (r_block (r_then (e_ret (ret_of rfl rfl (by simp [RB]) rfl rfl)))))))
  · rw [if_neg has] at hg
    refine vw_cond (t := false) (by simp [ev,tabE_cons,has]) (fun h => nomatch h) (fun _ => ?_)
    refine vw_skip (n_block (n_then ?_))
    refine vw_last rfl ?_; simp only [w3,go_sem,setCells,setIn]
    refine (n_then ?_)
    refine ⟨i + 1, by omega, ⟨by omega, hg⟩, ?_⟩
    refine norm_to [(5, 5)] rfl ?_ ?_ <;> simp only [go_sem]
theorem runs_151 (n : NodeV) (h1 : n.names.length < 2 ^ 60) (h2 : n.kids.length < 2 ^ 60) (s : ByteArray) :
    Runs Tryz.prog 151 [.agg [.v (.bool n.dir), .v (.list false 1 (n.names.map sRow)), .v (.list false 1 (n.kids.map nRow)), .v (.str n.data)], .one (.v (.str s))] [.one (.v (.int .i64 (kidF n s)))] [] := by
  refine runs_tab (tab := [(0, .agg [.c (.bool n.dir), .c (.list false 1 (n.names.map sRow)), .c (.list false 1 (n.kids.map nRow)), .c (.str n.data)]), (1, .c (.str s))]) (rts := []) (n := 16) (k := 5) Tryz.func151 rfl rfl (by simp) rfl (fun t => ?_) rfl ?_
  · rcases t with _ | _ | t <;> rfl
  have rL := runs_158 n h1 h2 s
  have hx := kidIx_in n.names n.kids s 0
  unfold kidF
  generalize kidIx n.names n.kids s 0 = x at rL hx ⊢
  refine vw_go rfl ?_; simp only [go_sem,setCells,setIn]
  refine vw_go rfl ?_; simp only [go_sem,setCells,setIn]
  refine ⟨_, _, call_rx [0, 0] Tryz.func158 (rL) rfl rfl rfl rfl rfl rfl rfl (by simp [lendAll,lendC,seek,fresh,nav,rcells,RT.cells,VV.cells,tabE_cons,tabS_cons,ev,take_map_len,sRow_r1,sRow_comp,sRow_clean,nRow_r1,nRow_comp,nRow_clean]) rfl (by simp [rcells,RT.cells,CT.clean,T.clean,sRow_r1,sRow_comp,sRow_clean,nRow_r1,nRow_comp,nRow_clean]) rfl rfl, ?_⟩
  simp only [runH,runX,go_sem,setCells,setIn]
  refine vw_seq ?_
  rcases hx with rfl | ⟨j, hj, hjl, _⟩
  · rw [if_pos (by decide)]
    refine vw_go rfl ?_; simp only [go_sem,setCells,setIn]
    refine vw_cond (t := true) rfl (fun _ => ?_) (fun h => nomatch h)
    refine vw_go rfl ?_; simp only [go_sem,setCells,setIn]
    exact vw_ret (r_then (e_ret (ret_of rfl rfl (by simp [RB]) rfl rfl)))
  rw [Nat.zero_add] at hj
  subst hj
  have g0 : ¬ (j : Int) < 0 := by omega
  rw [if_neg g0, Int.toNat_natCast]
  obtain ⟨y, hy⟩ : ∃ y, n.kids[j]? = some y := ⟨_, List.getElem?_eq_getElem hjl⟩
  rw [getD_of hy]
  have d0 : (0:Int) ≤ (j : Int) := by omega
  have d1 : (j : Int) < n.kids.length := by omega
  refine vw_go rfl ?_; simp only [g0,go_sem,setCells,setIn]
  refine vw_cond (t := false) rfl (fun h => nomatch h) (fun _ => ?_)
  refine vw_skip (n_then ?_)
  refine vw_go rfl ?_; simp only [d0,d1,hjl,Int.toNat_natCast,getD_map_of hy,nRow,go_sem,setCells,setIn]
  exact vw_ret (e_ret (ret_of rfl rfl (by simp [RB]) rfl rfl))
/-- From a number on, step by step. -/
def walkG (l : List ByteArray) : List ByteArray → Int → Int
  | [], k => k
  | s :: ss, k => if kidF (nodeRead (l.getD k.toNat ⟨#[]⟩)).1 s < 0 then -1 else walkG l ss (kidF (nodeRead (l.getD k.toNat ⟨#[]⟩)).1 s)
end Go.Proofs.YtkijdbljnefeaaaGreatDoor
