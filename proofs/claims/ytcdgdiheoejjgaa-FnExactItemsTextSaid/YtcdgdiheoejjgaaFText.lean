import Derived.Test.YtcdgdiheoejjgaaFItem2
namespace Go.Proofs.Ytcdgdiheoejjgaa
open Go.VM
set_option maxRecDepth 100000
set_option linter.unusedSimpArgs false
set_option linter.unusedVariables false

attribute [local congr] vw_congr runV_congr runH_congr runW_congr runX_congr

theorem szIS_len {l : List It3} {left : Int} (h : ¬ szIS l left < 0) : (l.length : Int) ≤ left := by
  unfold szIS at h
  split at h
  · exact absurd (by decide) h
  · omega

def piece (x : It3) : ByteArray := if x.2.1 then x.1 ++ ⟨#[47, 10]⟩ else x.1 ++ ⟨#[61]⟩ ++ x.2.2 ++ ⟨#[10]⟩
def textL : List It3 → ByteArray → ByteArray
  | [], s => s
  | x :: l, s => textL l (s ++ piece x)
def sizeL : List It3 → Nat
  | [] => 0
  | x :: l => x.1.size + x.2.2.size + 2 + sizeL l

theorem szL_size : ∀ {l : List It3} {left : Int}, 0 ≤ left → ¬ szL l left < 0 → (sizeL l : Int) ≤ left + 2 * l.length
  | [], left, h0, _ => by simp [sizeL]; omega
  | x :: l, left, h0, h => by
    simp only [szL] at h
    split at h
    · exact absurd (by decide) h
    · rename_i h1
      have := szL_size (l := l) (by omega) h
      have h2 : szI x left = left - x.1.size - x.2.2.size := by
        unfold szI at h1 ⊢
        split
        · rename_i h3; rw [if_pos h3] at h1; exact absurd (by decide) h1
        · rename_i h3
          rw [if_neg h3] at h1
          split
          · rename_i h4; rw [if_pos h4] at h1; exact absurd (by decide) h1
          · rfl
      simp only [sizeL, List.length_cons]
      omega
theorem szIS_size {l : List It3} {left : Int} (h0 : 0 ≤ left) (h : ¬ szIS l left < 0) : (sizeL l : Int) ≤ 3 * left := by
  have hl := szIS_len h
  unfold szIS at h
  split at h
  · exact absurd (by decide) h
  · have := szL_size (by omega) h
    omega

theorem sz_lit (a : Array UInt8) : ByteArray.size ⟨a⟩ = a.size := rfl

theorem runs_22 (l : List It3) (hl : l.length < 2 ^ 63) (hs : sizeL l < 2 ^ 50) :
    Runs Try.prog 22 [.one (.v (.list false 3 (l.map iRow)))] [.one (.v (.str (textL l ⟨#[]⟩)))] [] := by
  refine runs_tab (tab := [(0, .c (.list false 3 (l.map iRow)))]) (rts := []) (n := 35) (k := 1) Try.func22 rfl rfl (by simp) rfl (fun t => ?_) rfl ?_
  · rcases t with _ | t <;> rfl
  (refine vw_go rfl ?_; simp only [go_sem, setCells, setIn, ge_iff_le, gt_iff_lt, ↓reduceIte, Nat.reduceEqDiff, Nat.reduceAdd, Nat.reduceMul, Nat.reduceLT, Nat.reduceLeDiff, Nat.reduceBEq, reduceCtorEq])
  (refine vw_go rfl ?_; simp only [go_sem, setCells, setIn, ge_iff_le, gt_iff_lt, ↓reduceIte, Nat.reduceEqDiff, Nat.reduceAdd, Nat.reduceMul, Nat.reduceLT, Nat.reduceLeDiff, Nat.reduceBEq, reduceCtorEq])
  refine vw_seq ?_
  (refine vw_go rfl ?_; simp only [go_sem, setCells, setIn, ge_iff_le, gt_iff_lt, ↓reduceIte, Nat.reduceEqDiff, Nat.reduceAdd, Nat.reduceMul, Nat.reduceLT, Nat.reduceLeDiff, Nat.reduceBEq, reduceCtorEq])
  refine vw_block ?_
  refine vw_loop_tab (α := Nat × ByteArray) (fun x => l.length - x.1) (fun x => ⟨tabE [(0, .c (.list false 3 (l.map iRow))), (3, .c (.str x.2)), (4, .c (.int .i64 x.1))], tabS [], 1⟩)
    (fun x => x.1 ≤ l.length ∧ x.2.size + sizeL (l.drop x.1) < 2 ^ 50 ∧ textL (l.drop x.1) x.2 = textL l ⟨#[]⟩) (x := (0, ⟨#[]⟩)) ?round ?h0 ?hn
  case h0 => exact ⟨Nat.zero_le _, by simp only [List.drop_zero]; simpa [ByteArray.size] using hs, rfl⟩
  case hn => (refine norm_to [] rfl ?_ ?_ <;> simp only [go_sem, ge_iff_le, gt_iff_lt, ↓reduceIte, Nat.reduceEqDiff, Nat.reduceAdd, Nat.reduceMul, Nat.reduceLT, Nat.reduceLeDiff, Nat.reduceBEq, reduceCtorEq])
  rintro ⟨i, s⟩ ⟨hi, hsz, hm⟩
  simp only at hi hsz hm
  refine vw_seq ?_
  (refine vw_go rfl ?_; simp only [go_sem, setCells, setIn, ge_iff_le, gt_iff_lt, ↓reduceIte, Nat.reduceEqDiff, Nat.reduceAdd, Nat.reduceMul, Nat.reduceLT, Nat.reduceLeDiff, Nat.reduceBEq, reduceCtorEq])
  refine vw_cond (t := decide ((i : Int) < l.length)) rfl (fun h => ?_) (fun h => ?_)
  · refine vw_skip (n_then ?_)
    rcases get_or l i with ⟨x, hx, hlt⟩ | ⟨_, hge⟩
    case inr => simp only [decide_eq_true_eq] at h; omega
    have c1 : (0:Int) ≤ (i:Int) := by omega
    have c2 : (i:Int) < (l.length : Int) := by omega
    have w2 : IntKind.wrap .i64 ((i:Int) + 1) = ((i + 1 : Nat) : Int) := by rw [wrap_i64 (by omega) (by omega)]; rfl
    rw [drop_of hx] at hm hsz
    simp only [textL, sizeL] at hm hsz
    have A1 : s.size + x.1.size < 2 ^ 60 := by omega
    have A2 : s.size + x.1.size + 2 < 2 ^ 60 := by omega
    have A3 : s.size + x.1.size + 1 < 2 ^ 60 := by omega
    have A4 : s.size + x.1.size + 1 + x.2.2.size < 2 ^ 60 := by omega
    have A5 : s.size + x.1.size + 1 + x.2.2.size + 1 < 2 ^ 60 := by omega
    refine vw_seq ?_
    refine vw_block ?_
    (refine vw_go rfl ?_; simp only [c1, c2, Int.toNat_natCast, getD_map_of hx, iRow, A1, go_sem, setCells, setIn, ge_iff_le, gt_iff_lt, ↓reduceIte, Nat.reduceEqDiff, Nat.reduceAdd, Nat.reduceMul, Nat.reduceLT, Nat.reduceLeDiff, Nat.reduceBEq, reduceCtorEq])
    (refine vw_go rfl ?_; simp only [c1, c2, Int.toNat_natCast, getD_map_of hx, iRow, go_sem, setCells, setIn, ge_iff_le, gt_iff_lt, ↓reduceIte, Nat.reduceEqDiff, Nat.reduceAdd, Nat.reduceMul, Nat.reduceLT, Nat.reduceLeDiff, Nat.reduceBEq, reduceCtorEq])
    refine vw_cond (t := x.2.1) rfl (fun h => ?_) (fun h => ?_)
    · (refine vw_last rfl ?_; simp only [ByteArray.size_append, sz_lit, List.size_toArray, A2, go_sem, setCells, setIn, ge_iff_le, gt_iff_lt, ↓reduceIte, Nat.reduceEqDiff, Nat.reduceAdd, Nat.reduceMul, Nat.reduceLT, Nat.reduceLeDiff, Nat.reduceBEq, reduceCtorEq])
      refine (n_block (n_then ?_))
      (refine vw_last rfl ?_; simp only [w2, go_sem, setCells, setIn, ge_iff_le, gt_iff_lt, ↓reduceIte, Nat.reduceEqDiff, Nat.reduceAdd, Nat.reduceMul, Nat.reduceLT, Nat.reduceLeDiff, Nat.reduceBEq, reduceCtorEq])
      refine (n_then ?_)
      have e : s ++ piece x = s ++ x.1 ++ ⟨#[47, 10]⟩ := by simp [piece, h, ByteArray.append_assoc]
      refine ⟨(i + 1, s ++ piece x), by simp only; omega, ⟨hlt, ?_, hm⟩, ?_⟩
      · simp only [e, ByteArray.size_append, sz_lit, List.size_toArray, List.length_cons, List.length_nil]; omega
      · rw [e]
        (refine norm_to [] rfl ?_ ?_ <;> simp only [go_sem, ge_iff_le, gt_iff_lt, ↓reduceIte, Nat.reduceEqDiff, Nat.reduceAdd, Nat.reduceMul, Nat.reduceLT, Nat.reduceLeDiff, Nat.reduceBEq, reduceCtorEq])
    · (refine vw_last rfl ?_; simp only [ByteArray.size_append, sz_lit, List.size_toArray, A3, A4, A5, c1, c2, Int.toNat_natCast, getD_map_of hx, iRow, go_sem, setCells, setIn, ge_iff_le, gt_iff_lt, ↓reduceIte, Nat.reduceEqDiff, Nat.reduceAdd, Nat.reduceMul, Nat.reduceLT, Nat.reduceLeDiff, Nat.reduceBEq, reduceCtorEq])
      refine (n_block (n_then ?_))
      (refine vw_last rfl ?_; simp only [w2, go_sem, setCells, setIn, ge_iff_le, gt_iff_lt, ↓reduceIte, Nat.reduceEqDiff, Nat.reduceAdd, Nat.reduceMul, Nat.reduceLT, Nat.reduceLeDiff, Nat.reduceBEq, reduceCtorEq])
      refine (n_then ?_)
      have e : s ++ piece x = s ++ x.1 ++ ⟨#[61]⟩ ++ x.2.2 ++ ⟨#[10]⟩ := by simp [piece, h, ByteArray.append_assoc]
      refine ⟨(i + 1, s ++ piece x), by simp only; omega, ⟨hlt, ?_, hm⟩, ?_⟩
      · simp only [e, ByteArray.size_append, sz_lit, List.size_toArray, List.length_cons, List.length_nil]; omega
      · rw [e]
        (refine norm_to [] rfl ?_ ?_ <;> simp only [go_sem, ge_iff_le, gt_iff_lt, ↓reduceIte, Nat.reduceEqDiff, Nat.reduceAdd, Nat.reduceMul, Nat.reduceLT, Nat.reduceLeDiff, Nat.reduceBEq, reduceCtorEq])
  · refine vw_exit (x_then (x_then (x_block (n_then ?_))))
    (refine vw_go rfl ?_; simp only [go_sem, setCells, setIn, ge_iff_le, gt_iff_lt, ↓reduceIte, Nat.reduceEqDiff, Nat.reduceAdd, Nat.reduceMul, Nat.reduceLT, Nat.reduceLeDiff, Nat.reduceBEq, reduceCtorEq])
    simp only [decide_eq_false_iff_not] at h
    have : i = l.length := by omega
    subst this
    simp only [List.drop_length, textL] at hm
    rw [← hm]
    exact vw_ret (e_ret (ret_of rfl rfl (by simp [RB]) rfl rfl))

theorem runs_23 (l : List It3) (hl : l.length < 2 ^ 63) (hs : sizeL l < 2 ^ 50) :
    Runs Try.prog 23 [.one (.v (.list false 3 (l.map iRow)))] [.one (.v (.str (textL l ⟨#[]⟩)))] [] := by
  refine runs_tab (tab := [(0, .c (.list false 3 (l.map iRow)))]) (rts := []) (n := 30) (k := 1) Try.func23 rfl rfl (by simp) rfl (fun t => ?_) rfl ?_
  · rcases t with _ | t <;> rfl
  (refine vw_go rfl ?_; simp only [go_sem, setCells, setIn, ge_iff_le, gt_iff_lt, ↓reduceIte, Nat.reduceEqDiff, Nat.reduceAdd, Nat.reduceMul, Nat.reduceLT, Nat.reduceLeDiff, Nat.reduceBEq, reduceCtorEq])
  (refine vw_go rfl ?_; simp only [go_sem, setCells, setIn, ge_iff_le, gt_iff_lt, ↓reduceIte, Nat.reduceEqDiff, Nat.reduceAdd, Nat.reduceMul, Nat.reduceLT, Nat.reduceLeDiff, Nat.reduceBEq, reduceCtorEq])
  refine vw_seq ?_
  (refine vw_go rfl ?_; simp only [go_sem, setCells, setIn, ge_iff_le, gt_iff_lt, ↓reduceIte, Nat.reduceEqDiff, Nat.reduceAdd, Nat.reduceMul, Nat.reduceLT, Nat.reduceLeDiff, Nat.reduceBEq, reduceCtorEq])
  refine vw_block ?_
  refine vw_loop_tab (α := Nat × ByteArray) (fun x => l.length - x.1) (fun x => ⟨tabE [(0, .c (.list false 3 (l.map iRow))), (6, .c (.list false 3 (l.map iRow))), (7, .c (.int .i64 l.length)), (3, .c (.str x.2)), (8, .c (.int .i64 x.1))], tabS [], 1⟩)
    (fun x => x.1 ≤ l.length ∧ x.2.size + sizeL (l.drop x.1) < 2 ^ 50 ∧ textL (l.drop x.1) x.2 = textL l ⟨#[]⟩) (x := (0, ⟨#[]⟩)) ?round ?h0 ?hn
  case h0 => exact ⟨Nat.zero_le _, by simp only [List.drop_zero]; simpa [ByteArray.size] using hs, rfl⟩
  case hn => (refine norm_to [] rfl ?_ ?_ <;> simp only [go_sem, ge_iff_le, gt_iff_lt, ↓reduceIte, Nat.reduceEqDiff, Nat.reduceAdd, Nat.reduceMul, Nat.reduceLT, Nat.reduceLeDiff, Nat.reduceBEq, reduceCtorEq])
  rintro ⟨i, s⟩ ⟨hi, hsz, hm⟩
  simp only at hi hsz hm
  (refine vw_go rfl ?_; simp only [go_sem, setCells, setIn, ge_iff_le, gt_iff_lt, ↓reduceIte, Nat.reduceEqDiff, Nat.reduceAdd, Nat.reduceMul, Nat.reduceLT, Nat.reduceLeDiff, Nat.reduceBEq, reduceCtorEq])
  refine vw_seq ?_
  refine vw_cond (t := decide ((i : Int) < l.length)) rfl (fun h => ?_) (fun h => ?_)
  · refine vw_skip (n_then ?_)
    rcases get_or l i with ⟨x, hx, hlt⟩ | ⟨_, hge⟩
    case inr => simp only [decide_eq_true_eq] at h; omega
    have c1 : (0:Int) ≤ (i:Int) := by omega
    have c2 : (i:Int) < (l.length : Int) := by omega
    have w2 : IntKind.wrap .i64 ((i:Int) + 1) = ((i + 1 : Nat) : Int) := by rw [wrap_i64 (by omega) (by omega)]; rfl
    rw [drop_of hx] at hm hsz
    simp only [textL, sizeL] at hm hsz
    have A1 : x.1.size + 2 < 2 ^ 60 := by omega
    have A2 : s.size + (x.1.size + 2) < 2 ^ 60 := by omega
    have A3 : x.1.size + 1 < 2 ^ 60 := by omega
    have A4 : x.1.size + 1 + x.2.2.size < 2 ^ 60 := by omega
    have A5 : x.1.size + 1 + x.2.2.size + 1 < 2 ^ 60 := by omega
    have A6 : s.size + (x.1.size + 1 + x.2.2.size + 1) < 2 ^ 60 := by omega
    refine vw_seq ?_
    refine vw_block ?_
    (refine vw_go rfl ?_; simp only [c1, c2, Int.toNat_natCast, getD_map_of hx, iRow, go_sem, setCells, setIn, ge_iff_le, gt_iff_lt, ↓reduceIte, Nat.reduceEqDiff, Nat.reduceAdd, Nat.reduceMul, Nat.reduceLT, Nat.reduceLeDiff, Nat.reduceBEq, reduceCtorEq])
    (refine vw_go rfl ?_; simp only [go_sem, setCells, setIn, ge_iff_le, gt_iff_lt, ↓reduceIte, Nat.reduceEqDiff, Nat.reduceAdd, Nat.reduceMul, Nat.reduceLT, Nat.reduceLeDiff, Nat.reduceBEq, reduceCtorEq])
    refine vw_cond (t := x.2.1) rfl (fun h => ?_) (fun h => ?_)
    · (refine vw_last rfl ?_; simp only [ByteArray.size_append, sz_lit, List.size_toArray, A1, A2, go_sem, setCells, setIn, ge_iff_le, gt_iff_lt, ↓reduceIte, Nat.reduceEqDiff, Nat.reduceAdd, Nat.reduceMul, Nat.reduceLT, Nat.reduceLeDiff, Nat.reduceBEq, reduceCtorEq])
      refine (n_block (n_then ?_))
      (refine vw_last rfl ?_; simp only [w2, go_sem, setCells, setIn, ge_iff_le, gt_iff_lt, ↓reduceIte, Nat.reduceEqDiff, Nat.reduceAdd, Nat.reduceMul, Nat.reduceLT, Nat.reduceLeDiff, Nat.reduceBEq, reduceCtorEq])
      refine (n_then ?_)
      have e : piece x = x.1 ++ ⟨#[47, 10]⟩ := by simp [piece, h]
      refine ⟨(i + 1, s ++ piece x), by simp only; omega, ⟨hlt, ?_, hm⟩, ?_⟩
      · simp only [e, ByteArray.size_append, sz_lit, List.size_toArray, List.length_cons, List.length_nil]; omega
      · rw [e]
        (refine norm_to [] rfl ?_ ?_ <;> simp only [go_sem, ge_iff_le, gt_iff_lt, ↓reduceIte, Nat.reduceEqDiff, Nat.reduceAdd, Nat.reduceMul, Nat.reduceLT, Nat.reduceLeDiff, Nat.reduceBEq, reduceCtorEq])
    · (refine vw_last rfl ?_; simp only [ByteArray.size_append, sz_lit, List.size_toArray, A3, A4, A5, A6, go_sem, setCells, setIn, ge_iff_le, gt_iff_lt, ↓reduceIte, Nat.reduceEqDiff, Nat.reduceAdd, Nat.reduceMul, Nat.reduceLT, Nat.reduceLeDiff, Nat.reduceBEq, reduceCtorEq])
      refine (n_block (n_then ?_))
      (refine vw_last rfl ?_; simp only [w2, go_sem, setCells, setIn, ge_iff_le, gt_iff_lt, ↓reduceIte, Nat.reduceEqDiff, Nat.reduceAdd, Nat.reduceMul, Nat.reduceLT, Nat.reduceLeDiff, Nat.reduceBEq, reduceCtorEq])
      refine (n_then ?_)
      have e : piece x = x.1 ++ ⟨#[61]⟩ ++ x.2.2 ++ ⟨#[10]⟩ := by simp [piece, h]
      refine ⟨(i + 1, s ++ piece x), by simp only; omega, ⟨hlt, ?_, hm⟩, ?_⟩
      · simp only [e, ByteArray.size_append, sz_lit, List.size_toArray, List.length_cons, List.length_nil]; omega
      · rw [e]
        (refine norm_to [] rfl ?_ ?_ <;> simp only [go_sem, ge_iff_le, gt_iff_lt, ↓reduceIte, Nat.reduceEqDiff, Nat.reduceAdd, Nat.reduceMul, Nat.reduceLT, Nat.reduceLeDiff, Nat.reduceBEq, reduceCtorEq])
  · refine vw_exit (x_then (x_then (x_block (n_then ?_))))
    (refine vw_go rfl ?_; simp only [go_sem, setCells, setIn, ge_iff_le, gt_iff_lt, ↓reduceIte, Nat.reduceEqDiff, Nat.reduceAdd, Nat.reduceMul, Nat.reduceLT, Nat.reduceLeDiff, Nat.reduceBEq, reduceCtorEq])
    simp only [decide_eq_false_iff_not] at h
    have : i = l.length := by omega
    subst this
    simp only [List.drop_length, textL] at hm
    rw [← hm]
    exact vw_ret (e_ret (ret_of rfl rfl (by simp [RB]) rfl rfl))

theorem runs_5 (l : List It3) (hb : ∀ x ∈ l, x.1.size < 2 ^ 63 ∧ x.2.2.size < 2 ^ 63) (hl : l.length < 2 ^ 63) :
    Runs Try.prog 5 [.one (.v (.list false 3 (l.map iRow)))] [.one (.v (.bool true))] [] := by
  refine runs_tab (tab := [(0, .c (.list false 3 (l.map iRow)))]) (rts := []) (n := 27) (k := 1) Try.func5 rfl rfl (by simp) rfl (fun t => ?_) rfl ?_
  · rcases t with _ | t <;> rfl
  (refine vw_go rfl ?_; simp only [go_sem, setCells, setIn, ge_iff_le, gt_iff_lt, ↓reduceIte, Nat.reduceEqDiff, Nat.reduceAdd, Nat.reduceMul, Nat.reduceLT, Nat.reduceLeDiff, Nat.reduceBEq, reduceCtorEq])
  (refine vw_go rfl ?_; simp only [go_sem, setCells, setIn, ge_iff_le, gt_iff_lt, ↓reduceIte, Nat.reduceEqDiff, Nat.reduceAdd, Nat.reduceMul, Nat.reduceLT, Nat.reduceLeDiff, Nat.reduceBEq, reduceCtorEq])
  (refine vw_go rfl ?_; simp only [go_sem, setCells, setIn, ge_iff_le, gt_iff_lt, ↓reduceIte, Nat.reduceEqDiff, Nat.reduceAdd, Nat.reduceMul, Nat.reduceLT, Nat.reduceLeDiff, Nat.reduceBEq, reduceCtorEq])
  (refine ⟨_, _, call_rx [0, 0] Try.func17 (runs_17 l 1048576 hb hl (by decide) (by decide)) rfl rfl rfl rfl rfl rfl rfl (by simp [lendAll, lendC, seek, fresh, nav, rcells, RT.cells, VV.cells, tabE_cons, tabS_cons, ev, take_map_len, iRow_r1, iRow_clean]) rfl (by simp [rcells, RT.cells, CT.clean, T.clean, iRow_r1, iRow_clean]) rfl rfl, ?_⟩)
  simp only [go_sem, setCells, setIn, ge_iff_le, gt_iff_lt, ↓reduceIte, Nat.reduceEqDiff, Nat.reduceAdd, Nat.reduceMul, Nat.reduceLT, Nat.reduceLeDiff, Nat.reduceBEq, reduceCtorEq]
  refine vw_seq ?_
  (refine vw_go rfl ?_; simp only [go_sem, setCells, setIn, ge_iff_le, gt_iff_lt, ↓reduceIte, Nat.reduceEqDiff, Nat.reduceAdd, Nat.reduceMul, Nat.reduceLT, Nat.reduceLeDiff, Nat.reduceBEq, reduceCtorEq])
  refine vw_cond (t := decide (szIS l 1048576 < 0)) rfl (fun h => ?_) (fun h => ?_)
  · (refine vw_go rfl ?_; simp only [go_sem, setCells, setIn, ge_iff_le, gt_iff_lt, ↓reduceIte, Nat.reduceEqDiff, Nat.reduceAdd, Nat.reduceMul, Nat.reduceLT, Nat.reduceLeDiff, Nat.reduceBEq, reduceCtorEq])
    exact vw_ret (r_then (e_ret (ret_of rfl rfl (by simp [RB]) rfl rfl)))
  refine vw_skip (n_then ?_)
  have hlen := szIS_len (by simpa using h)
  have hl2 : l.length ≤ 2 ^ 20 := by omega
  have hs := szIS_size (by decide) (show ¬ szIS l 1048576 < 0 by simpa using h)
  have hs2 : sizeL l < 2 ^ 50 := by omega
  (refine vw_go rfl ?_; simp only [go_sem, setCells, setIn, ge_iff_le, gt_iff_lt, ↓reduceIte, Nat.reduceEqDiff, Nat.reduceAdd, Nat.reduceMul, Nat.reduceLT, Nat.reduceLeDiff, Nat.reduceBEq, reduceCtorEq])
  (refine ⟨_, _, call_rx [0] Try.func19 (runs_19 l hl2) rfl rfl rfl rfl rfl rfl rfl (by simp [lendAll, lendC, seek, fresh, nav, rcells, RT.cells, VV.cells, tabE_cons, tabS_cons, ev, take_map_len, iRow_r1, iRow_clean]) rfl (by simp [rcells, RT.cells, CT.clean, T.clean, iRow_r1, iRow_clean]) rfl rfl, ?_⟩)
  simp only [go_sem, setCells, setIn, ge_iff_le, gt_iff_lt, ↓reduceIte, Nat.reduceEqDiff, Nat.reduceAdd, Nat.reduceMul, Nat.reduceLT, Nat.reduceLeDiff, Nat.reduceBEq, reduceCtorEq]
  (refine ⟨_, _, call_rx [0] Try.func22 (runs_22 l hl hs2) rfl rfl rfl rfl rfl rfl rfl (by simp [lendAll, lendC, seek, fresh, nav, rcells, RT.cells, VV.cells, tabE_cons, tabS_cons, ev, take_map_len, iRow_r1, iRow_clean]) rfl (by simp [rcells, RT.cells, CT.clean, T.clean, iRow_r1, iRow_clean]) rfl rfl, ?_⟩)
  simp only [go_sem, setCells, setIn, ge_iff_le, gt_iff_lt, ↓reduceIte, Nat.reduceEqDiff, Nat.reduceAdd, Nat.reduceMul, Nat.reduceLT, Nat.reduceLeDiff, Nat.reduceBEq, reduceCtorEq]
  (refine vw_go rfl ?_; simp only [go_sem, setCells, setIn, ge_iff_le, gt_iff_lt, ↓reduceIte, Nat.reduceEqDiff, Nat.reduceAdd, Nat.reduceMul, Nat.reduceLT, Nat.reduceLeDiff, Nat.reduceBEq, reduceCtorEq])
  (refine ⟨_, _, call_rx [0] Try.func19 (runs_19 l hl2) rfl rfl rfl rfl rfl rfl rfl (by simp [lendAll, lendC, seek, fresh, nav, rcells, RT.cells, VV.cells, tabE_cons, tabS_cons, ev, take_map_len, iRow_r1, iRow_clean]) rfl (by simp [rcells, RT.cells, CT.clean, T.clean, iRow_r1, iRow_clean]) rfl rfl, ?_⟩)
  simp only [go_sem, setCells, setIn, ge_iff_le, gt_iff_lt, ↓reduceIte, Nat.reduceEqDiff, Nat.reduceAdd, Nat.reduceMul, Nat.reduceLT, Nat.reduceLeDiff, Nat.reduceBEq, reduceCtorEq]
  (refine vw_go rfl ?_; simp only [go_sem, setCells, setIn, ge_iff_le, gt_iff_lt, ↓reduceIte, Nat.reduceEqDiff, Nat.reduceAdd, Nat.reduceMul, Nat.reduceLT, Nat.reduceLeDiff, Nat.reduceBEq, reduceCtorEq])
  (refine ⟨_, _, call_rx [0] Try.func23 (runs_23 l hl hs2) rfl rfl rfl rfl rfl rfl rfl (by simp [lendAll, lendC, seek, fresh, nav, rcells, RT.cells, VV.cells, tabE_cons, tabS_cons, ev, take_map_len, iRow_r1, iRow_clean]) rfl (by simp [rcells, RT.cells, CT.clean, T.clean, iRow_r1, iRow_clean]) rfl rfl, ?_⟩)
  simp only [go_sem, setCells, setIn, ge_iff_le, gt_iff_lt, ↓reduceIte, Nat.reduceEqDiff, Nat.reduceAdd, Nat.reduceMul, Nat.reduceLT, Nat.reduceLeDiff, Nat.reduceBEq, reduceCtorEq]
  refine vw_seq ?_
  (refine vw_go rfl ?_; simp only [go_sem, setCells, setIn, ge_iff_le, gt_iff_lt, ↓reduceIte, Nat.reduceEqDiff, Nat.reduceAdd, Nat.reduceMul, Nat.reduceLT, Nat.reduceLeDiff, Nat.reduceBEq, reduceCtorEq])
  refine vw_cond (t := false) rfl (fun h => ?_) (fun h => ?_)
  · cases h
  refine vw_skip (n_then ?_)
  refine vw_seq ?_
  (refine vw_go rfl ?_; simp only [go_sem, setCells, setIn, ge_iff_le, gt_iff_lt, ↓reduceIte, Nat.reduceEqDiff, Nat.reduceAdd, Nat.reduceMul, Nat.reduceLT, Nat.reduceLeDiff, Nat.reduceBEq, reduceCtorEq])
  (refine ⟨_, _, call_rx [0] Try.func19 (runs_19 l hl2) rfl rfl rfl rfl rfl rfl rfl (by simp [lendAll, lendC, seek, fresh, nav, rcells, RT.cells, VV.cells, tabE_cons, tabS_cons, ev, take_map_len, iRow_r1, iRow_clean]) rfl (by simp [rcells, RT.cells, CT.clean, T.clean, iRow_r1, iRow_clean]) rfl rfl, ?_⟩)
  simp only [go_sem, setCells, setIn, ge_iff_le, gt_iff_lt, ↓reduceIte, Nat.reduceEqDiff, Nat.reduceAdd, Nat.reduceMul, Nat.reduceLT, Nat.reduceLeDiff, Nat.reduceBEq, reduceCtorEq]
  (refine ⟨_, _, call_rx [0, 0] Try.func21 (runs_21 l l hl hl) rfl rfl rfl rfl rfl rfl rfl (by simp [lendAll, lendC, seek, fresh, nav, rcells, RT.cells, VV.cells, tabE_cons, tabS_cons, ev, take_map_len, iRow_r1, iRow_clean]) rfl (by simp [rcells, RT.cells, CT.clean, T.clean, iRow_r1, iRow_clean]) rfl rfl, ?_⟩)
  simp only [go_sem, setCells, setIn, ge_iff_le, gt_iff_lt, ↓reduceIte, Nat.reduceEqDiff, Nat.reduceAdd, Nat.reduceMul, Nat.reduceLT, Nat.reduceLeDiff, Nat.reduceBEq, reduceCtorEq]
  refine vw_cond (t := false) rfl (fun h => ?_) (fun h => ?_)
  · cases h
  refine vw_skip (n_then ?_)
  (refine vw_go rfl ?_; simp only [go_sem, setCells, setIn, ge_iff_le, gt_iff_lt, ↓reduceIte, Nat.reduceEqDiff, Nat.reduceAdd, Nat.reduceMul, Nat.reduceLT, Nat.reduceLeDiff, Nat.reduceBEq, reduceCtorEq])
  exact vw_ret (e_ret (ret_of rfl rfl (by simp [RB]) rfl rfl))
end Go.Proofs.Ytcdgdiheoejjgaa
