/- Names of a path: the library's Split at one byte. -/
import Derived.Test.YtplnflkabpcaaaaDoorFNames
import Derived.Lib.Explode
namespace Go.Proofs.YtplnflkabpcaaaaDoor
open Go.VM Go
set_option maxRecDepth 100000
set_option linter.unusedSimpArgs false
set_option linter.unusedVariables false
attribute [local congr] vw_congr runV_congr runH_congr runW_congr runX_congr

theorem toB (c : UInt8) : (c.toNat).toUInt8 = c := by simp

theorem runs_41 (s : ByteArray) (c : UInt8) : Runs Tryd.prog 41 [.one (.v (.str s)), .one (.v (.str ⟨#[c]⟩))] [.one (.v (.int .i64 (s.data.toList.count c)))] [] := by
  refine runs_tab (tab := [(0, .c (.str s)), (1, .c (.str ⟨#[c]⟩))]) (rts := []) (n := 34) (k := 2) Tryd.func41 rfl rfl (by simp) rfl (fun t => ?_) rfl ?_
  · rcases t with _ | _ | t <;> rfl
  have z : ((ByteArray.size ⟨#[c]⟩ : Nat) : Int) = 1 := rfl
  have z1 : (⟨#[c]⟩ : ByteArray).data.toList.getD 0 0 = c := rfl
  (refine vw_go rfl ?_; simp only [go_sem, setCells, setIn, Int.reduceToNat, Int.reduceEq, Int.reduceLT, Int.reduceLE, Int.reduceNeg, Int.reduceSub, Int.reduceAdd, ge_iff_le, gt_iff_lt, ↓reduceIte, Nat.reduceEqDiff, Nat.reduceAdd, Nat.reduceMul, Nat.reduceLT, Nat.reduceLeDiff, Nat.reduceBEq, reduceCtorEq])
  refine vw_seq ?_
  (refine vw_go rfl ?_; simp only [z, go_sem, setCells, setIn, Int.reduceToNat, Int.reduceEq, Int.reduceLT, Int.reduceLE, Int.reduceNeg, Int.reduceSub, Int.reduceAdd, ge_iff_le, gt_iff_lt, ↓reduceIte, Nat.reduceEqDiff, Nat.reduceAdd, Nat.reduceMul, Nat.reduceLT, Nat.reduceLeDiff, Nat.reduceBEq, reduceCtorEq])
  refine vw_cond (t := false) rfl (fun h => ?_) (fun h => ?_)
  · cases h
  refine vw_skip (n_then ?_)
  refine vw_seq ?_
  (refine vw_go rfl ?_; simp only [z, go_sem, setCells, setIn, Int.reduceToNat, Int.reduceEq, Int.reduceLT, Int.reduceLE, Int.reduceNeg, Int.reduceSub, Int.reduceAdd, ge_iff_le, gt_iff_lt, ↓reduceIte, Nat.reduceEqDiff, Nat.reduceAdd, Nat.reduceMul, Nat.reduceLT, Nat.reduceLeDiff, Nat.reduceBEq, reduceCtorEq])
  refine vw_cond (t := true) rfl (fun h => ?_) (fun h => ?_)
  case refine_2 => cases h
  (refine vw_go rfl ?_; simp only [z, z1, go_sem, setCells, setIn, Int.reduceToNat, Int.reduceEq, Int.reduceLT, Int.reduceLE, Int.reduceNeg, Int.reduceSub, Int.reduceAdd, ge_iff_le, gt_iff_lt, ↓reduceIte, Nat.reduceEqDiff, Nat.reduceAdd, Nat.reduceMul, Nat.reduceLT, Nat.reduceLeDiff, Nat.reduceBEq, reduceCtorEq])
  refine ⟨_, _, call_prim2 9 5 Tryd.func46 rfl rfl (by kernel_rfl) (e := Extern.BytealgCount.count) (by kernel_rfl) (fun w => Lib.run_countString s _ w) rfl rfl rfl rfl rfl rfl, ?_⟩
  simp only [runH, runX, Lib.countByte, Int.toNat_natCast, toB, go_sem, setCells, setIn, Int.reduceToNat, Int.reduceEq, Int.reduceLT, Int.reduceLE, Int.reduceNeg, Int.reduceSub, Int.reduceAdd, ge_iff_le, gt_iff_lt, ↓reduceIte, Nat.reduceEqDiff, Nat.reduceAdd, Nat.reduceMul, Nat.reduceLT, Nat.reduceLeDiff, Nat.reduceBEq, reduceCtorEq]
  exact vw_ret (r_then (e_ret (ret_of rfl rfl (by simp [RB]) rfl rfl)))

theorem runs_51 (s : ByteArray) (c : UInt8) : Runs Tryd.prog 51 [.one (.v (.str s)), .one (.v (.int .u8 c.toNat))] [.one (.v (.int .i64 (Lib.indexByte s.data.toList c)))] [] := by
  refine runs_tab (tab := [(0, .c (.str s)), (1, .c (.int .u8 c.toNat))]) (rts := []) (n := 8) (k := 2) Tryd.func51 rfl rfl (by simp) rfl (fun t => ?_) rfl ?_
  · rcases t with _ | _ | t <;> rfl
  (refine vw_go rfl ?_; simp only [go_sem, setCells, setIn, Int.reduceToNat, Int.reduceEq, Int.reduceLT, Int.reduceLE, Int.reduceNeg, Int.reduceSub, Int.reduceAdd, ge_iff_le, gt_iff_lt, ↓reduceIte, Nat.reduceEqDiff, Nat.reduceAdd, Nat.reduceMul, Nat.reduceLT, Nat.reduceLeDiff, Nat.reduceBEq, reduceCtorEq])
  (refine vw_go rfl ?_; simp only [go_sem, setCells, setIn, Int.reduceToNat, Int.reduceEq, Int.reduceLT, Int.reduceLE, Int.reduceNeg, Int.reduceSub, Int.reduceAdd, ge_iff_le, gt_iff_lt, ↓reduceIte, Nat.reduceEqDiff, Nat.reduceAdd, Nat.reduceMul, Nat.reduceLT, Nat.reduceLeDiff, Nat.reduceBEq, reduceCtorEq])
  refine ⟨_, _, call_prim2 9 5 Tryd.func55 rfl rfl (by kernel_rfl) (e := Extern.BytealgIndexByte.indexByte) (by kernel_rfl) (fun w => Lib.run_indexByteString s _ w) rfl rfl rfl rfl rfl rfl, ?_⟩
  simp only [runH, runX, Int.toNat_natCast, toB, go_sem, setCells, setIn, Int.reduceToNat, Int.reduceEq, Int.reduceLT, Int.reduceLE, Int.reduceNeg, Int.reduceSub, Int.reduceAdd, ge_iff_le, gt_iff_lt, ↓reduceIte, Nat.reduceEqDiff, Nat.reduceAdd, Nat.reduceMul, Nat.reduceLT, Nat.reduceLeDiff, Nat.reduceBEq, reduceCtorEq]
  exact vw_ret (e_ret (ret_of rfl rfl (by simp [RB]) rfl rfl))

theorem runs_47 (s : ByteArray) (c : UInt8) : Runs Tryd.prog 47 [.one (.v (.str s)), .one (.v (.str ⟨#[c]⟩))] [.one (.v (.int .i64 (Lib.indexByte s.data.toList c)))] [] := by
  refine runs_tab (tab := [(0, .c (.str s)), (1, .c (.str ⟨#[c]⟩))]) (rts := []) (n := 143) (k := 2) Tryd.func47 rfl rfl (by simp) rfl (fun t => ?_) rfl ?_
  · rcases t with _ | _ | t <;> rfl
  have z : ((ByteArray.size ⟨#[c]⟩ : Nat) : Int) = 1 := rfl
  have z1 : (⟨#[c]⟩ : ByteArray).data.toList.getD 0 0 = c := rfl
  (refine vw_go rfl ?_; simp only [go_sem, setCells, setIn, Int.reduceToNat, Int.reduceEq, Int.reduceLT, Int.reduceLE, Int.reduceNeg, Int.reduceSub, Int.reduceAdd, ge_iff_le, gt_iff_lt, ↓reduceIte, Nat.reduceEqDiff, Nat.reduceAdd, Nat.reduceMul, Nat.reduceLT, Nat.reduceLeDiff, Nat.reduceBEq, reduceCtorEq])
  (refine vw_go rfl ?_; simp only [z, go_sem, setCells, setIn, Int.reduceToNat, Int.reduceEq, Int.reduceLT, Int.reduceLE, Int.reduceNeg, Int.reduceSub, Int.reduceAdd, ge_iff_le, gt_iff_lt, ↓reduceIte, Nat.reduceEqDiff, Nat.reduceAdd, Nat.reduceMul, Nat.reduceLT, Nat.reduceLeDiff, Nat.reduceBEq, reduceCtorEq])
  refine vw_seq ?_
  refine vw_block ?_
  by_cases e : (⟨#[c]⟩ : ByteArray) = s
  · have e' : decide ((⟨#[c]⟩ : ByteArray) = s) = true := by simp [e]
    (refine vw_go rfl ?_; simp only [e', go_sem, setCells, setIn, Int.reduceToNat, Int.reduceEq, Int.reduceLT, Int.reduceLE, Int.reduceNeg, Int.reduceSub, Int.reduceAdd, ge_iff_le, gt_iff_lt, ↓reduceIte, Nat.reduceEqDiff, Nat.reduceAdd, Nat.reduceMul, Nat.reduceLT, Nat.reduceLeDiff, Nat.reduceBEq, reduceCtorEq])
    refine vw_cond (t := true) rfl (fun h => ?_) (fun h => ?_)
    case refine_2 => cases h
    (refine vw_go rfl ?_; simp only [go_sem, setCells, setIn, Int.reduceToNat, Int.reduceEq, Int.reduceLT, Int.reduceLE, Int.reduceNeg, Int.reduceSub, Int.reduceAdd, ge_iff_le, gt_iff_lt, ↓reduceIte, Nat.reduceEqDiff, Nat.reduceAdd, Nat.reduceMul, Nat.reduceLT, Nat.reduceLeDiff, Nat.reduceBEq, reduceCtorEq])
    rw [show Lib.indexByte s.data.toList c = 0 from by rw [← e]; simp [Lib.indexByte]]
    exact vw_ret (r_block (r_then (e_ret (ret_of rfl rfl (by simp [RB]) rfl rfl))))
  have e' : decide ((⟨#[c]⟩ : ByteArray) = s) = false := by simp [e]
  (refine vw_go rfl ?_; simp only [e', go_sem, setCells, setIn, Int.reduceToNat, Int.reduceEq, Int.reduceLT, Int.reduceLE, Int.reduceNeg, Int.reduceSub, Int.reduceAdd, ge_iff_le, gt_iff_lt, ↓reduceIte, Nat.reduceEqDiff, Nat.reduceAdd, Nat.reduceMul, Nat.reduceLT, Nat.reduceLeDiff, Nat.reduceBEq, reduceCtorEq])
  refine vw_cond (t := false) rfl (fun h => ?_) (fun h => ?_)
  · cases h
  (refine vw_go rfl ?_; simp only [go_sem, setCells, setIn, Int.reduceToNat, Int.reduceEq, Int.reduceLT, Int.reduceLE, Int.reduceNeg, Int.reduceSub, Int.reduceAdd, ge_iff_le, gt_iff_lt, ↓reduceIte, Nat.reduceEqDiff, Nat.reduceAdd, Nat.reduceMul, Nat.reduceLT, Nat.reduceLeDiff, Nat.reduceBEq, reduceCtorEq])
  refine vw_cond (t := true) rfl (fun h => ?_) (fun h => ?_)
  case refine_2 => cases h
  (refine vw_go rfl ?_; simp only [z, z1, go_sem, setCells, setIn, Int.reduceToNat, Int.reduceEq, Int.reduceLT, Int.reduceLE, Int.reduceNeg, Int.reduceSub, Int.reduceAdd, ge_iff_le, gt_iff_lt, ↓reduceIte, Nat.reduceEqDiff, Nat.reduceAdd, Nat.reduceMul, Nat.reduceLT, Nat.reduceLeDiff, Nat.reduceBEq, reduceCtorEq])
  (refine ⟨_, _, call_rd [0, 0] Tryd.func51 (runs_51 s c) rfl rfl rfl rfl rfl rfl rfl rfl rfl rfl rfl rfl rfl, ?_⟩)
  simp only [runH, runX, go_sem, setCells, setIn, Int.reduceToNat, Int.reduceEq, Int.reduceLT, Int.reduceLE, Int.reduceNeg, Int.reduceSub, Int.reduceAdd, ge_iff_le, gt_iff_lt, ↓reduceIte, Nat.reduceEqDiff, Nat.reduceAdd, Nat.reduceMul, Nat.reduceLT, Nat.reduceLeDiff, Nat.reduceBEq, reduceCtorEq]
  exact vw_ret (r_block (r_then (e_ret (ret_of rfl rfl (by simp [RB]) rfl rfl))))

theorem runs_42 (s : ByteArray) (c : UInt8) : Runs Tryd.prog 42 [.one (.v (.str s)), .one (.v (.str ⟨#[c]⟩))] [.one (.v (.int .i64 (Lib.indexByte s.data.toList c)))] [] := by
  refine runs_tab (tab := [(0, .c (.str s)), (1, .c (.str ⟨#[c]⟩))]) (rts := []) (n := 8) (k := 2) Tryd.func42 rfl rfl (by simp) rfl (fun t => ?_) rfl ?_
  · rcases t with _ | _ | t <;> rfl
  (refine vw_go rfl ?_; simp only [go_sem, setCells, setIn, Int.reduceToNat, Int.reduceEq, Int.reduceLT, Int.reduceLE, Int.reduceNeg, Int.reduceSub, Int.reduceAdd, ge_iff_le, gt_iff_lt, ↓reduceIte, Nat.reduceEqDiff, Nat.reduceAdd, Nat.reduceMul, Nat.reduceLT, Nat.reduceLeDiff, Nat.reduceBEq, reduceCtorEq])
  (refine vw_go rfl ?_; simp only [go_sem, setCells, setIn, Int.reduceToNat, Int.reduceEq, Int.reduceLT, Int.reduceLE, Int.reduceNeg, Int.reduceSub, Int.reduceAdd, ge_iff_le, gt_iff_lt, ↓reduceIte, Nat.reduceEqDiff, Nat.reduceAdd, Nat.reduceMul, Nat.reduceLT, Nat.reduceLeDiff, Nat.reduceBEq, reduceCtorEq])
  (refine ⟨_, _, call_rd [0, 0] Tryd.func47 (runs_47 s c) rfl rfl rfl rfl rfl rfl rfl rfl rfl rfl rfl rfl rfl, ?_⟩)
  simp only [runH, runX, go_sem, setCells, setIn, Int.reduceToNat, Int.reduceEq, Int.reduceLT, Int.reduceLE, Int.reduceNeg, Int.reduceSub, Int.reduceAdd, ge_iff_le, gt_iff_lt, ↓reduceIte, Nat.reduceEqDiff, Nat.reduceAdd, Nat.reduceMul, Nat.reduceLT, Nat.reduceLeDiff, Nat.reduceBEq, reduceCtorEq]
  exact vw_ret (e_ret (ret_of rfl rfl (by simp [RB]) rfl rfl))

theorem rest_bytes (s : ByteArray) (p : Nat) : (s.extract p s.size).data.toList = s.data.toList.drop p := by
  rw [ByteArray.data_extract, Array.toList_extract, List.extract_eq_take_drop, List.take_of_length_le]
  rw [List.length_drop, bs_len]; exact Nat.le_refl _
theorem rest_size (s : ByteArray) (p : Nat) : (s.extract p s.size).size = s.size - p := by
  rw [ByteArray.size_extract, Nat.min_self]
theorem rest_get (s : ByteArray) (p j : Nat) : (s.data.toList.drop p)[j]? = s.data.toList[p + j]? := by
  rw [List.getElem?_drop]
/-- The next cut: none is left, or it stands there. -/
theorem next_cut {c : UInt8} {s : ByteArray} {p : Nat} (hp : p ≤ s.size) (hc : 0 < (s.data.toList.drop p).count c) :
    ∃ o : Nat, Lib.indexByte (s.data.toList.drop p) c = o ∧ p + o < s.size ∧ pcs c s (s.size - p) p p = s.extract p (p + o) :: pcs c s (s.size - (p + o + 1)) (p + o + 1) (p + o + 1) := by
  have hge := Lib.indexByte_ge (s.data.toList.drop p) c
  by_cases h : Lib.indexByte (s.data.toList.drop p) c = -1
  · exfalso
    obtain ⟨k, hk⟩ := List.getElem?_of_mem (List.count_pos_iff.1 hc)
    exact Lib.indexByte_none h k hk
  · obtain ⟨o, ho⟩ : ∃ o : Nat, Lib.indexByte (s.data.toList.drop p) c = o := ⟨(Lib.indexByte (s.data.toList.drop p) c).toNat, by omega⟩
    obtain ⟨h1, h2⟩ := Lib.indexByte_some ho
    rw [rest_get] at h1
    have hlt := lt_of_getl h1
    rw [bs_len] at hlt
    refine ⟨o, ho, hlt, ?_⟩
    rw [pcs_skip o (by omega) (fun j hj hb => ?_), pcs_hit hlt (getD_of h1)]
    have hl : p + j < s.data.toList.length := by rw [bs_len]; omega
    refine h2 j hj ?_
    rw [rest_get, List.getElem?_eq_getElem hl]
    rw [List.getD_eq_getElem?_getD, List.getElem?_eq_getElem hl] at hb
    simpa using hb
theorem no_cut {c : UInt8} {s : ByteArray} {p : Nat} (hp : p ≤ s.size) (hc : (s.data.toList.drop p).count c = 0) : pcs c s (s.size - p) p p = [s.extract p s.size] := by
  rw [pcs_skip (s.size - p) (by omega) (fun j hj hb => ?_), show p + (s.size - p) = s.size from by omega, pcs_end]
  have hl : p + j < s.data.toList.length := by rw [bs_len]; omega
  have h0 := List.count_eq_zero.1 hc
  refine h0 (List.mem_of_getElem? (i := j) ?_)
  rw [rest_get, List.getElem?_eq_getElem hl]
  rw [List.getD_eq_getElem?_getD, List.getElem?_eq_getElem hl] at hb
  simpa using hb

theorem runs_34 (s : ByteArray) (hs : s.size ≤ 2 ^ 20) :
    Runs Tryd.prog 34 [.one (.v (.str s)), .one (.v (.str ⟨#[47]⟩)), .one (.v (.int .i64 0)), .one (.v (.int .i64 (-1)))] [.one (.v (.list true 1 ((names s).map sRow)))] [] := by
  refine runs_tab (tab := [(0, .c (.str s)), (1, .c (.str ⟨#[47]⟩)), (2, .c (.int .i64 0)), (3, .c (.int .i64 (-1)))]) (rts := []) (n := 66) (k := 4) Tryd.func34 rfl rfl (by simp) rfl (fun t => ?_) rfl ?_
  · rcases t with _ | _ | _ | _ | t <;> rfl
  have z : ((ByteArray.size ⟨#[47]⟩ : Nat) : Int) = 1 := rfl
  have z' : ((Array.size #[(47 : UInt8)] : Nat) : Int) = 1 := rfl
  have hn := names_len s
  have hle := names_le s
  obtain ⟨n, hN⟩ : ∃ n, n = s.data.toList.count 47 := ⟨_, rfl⟩
  rw [← hN] at hn
  (refine vw_go rfl ?_; simp only [go_sem, setCells, setIn, Int.reduceToNat, Int.reduceEq, Int.reduceLT, Int.reduceLE, Int.reduceNeg, Int.reduceSub, Int.reduceAdd, ge_iff_le, gt_iff_lt, ↓reduceIte, Nat.reduceEqDiff, Nat.reduceAdd, Nat.reduceMul, Nat.reduceLT, Nat.reduceLeDiff, Nat.reduceBEq, reduceCtorEq])
  refine vw_seq ?_
  (refine vw_go rfl ?_; simp only [go_sem, setCells, setIn, Int.reduceToNat, Int.reduceEq, Int.reduceLT, Int.reduceLE, Int.reduceNeg, Int.reduceSub, Int.reduceAdd, ge_iff_le, gt_iff_lt, ↓reduceIte, Nat.reduceEqDiff, Nat.reduceAdd, Nat.reduceMul, Nat.reduceLT, Nat.reduceLeDiff, Nat.reduceBEq, reduceCtorEq])
  refine vw_cond (t := false) rfl (fun h => ?_) (fun h => ?_)
  · cases h
  refine vw_skip (n_then ?_)
  refine vw_seq ?_
  (refine vw_go rfl ?_; simp only [go_sem, setCells, setIn, Int.reduceToNat, Int.reduceEq, Int.reduceLT, Int.reduceLE, Int.reduceNeg, Int.reduceSub, Int.reduceAdd, ge_iff_le, gt_iff_lt, ↓reduceIte, Nat.reduceEqDiff, Nat.reduceAdd, Nat.reduceMul, Nat.reduceLT, Nat.reduceLeDiff, Nat.reduceBEq, reduceCtorEq])
  refine vw_cond (t := false) rfl (fun h => ?_) (fun h => ?_)
  · cases h
  refine vw_skip (n_then ?_)
  refine vw_seq ?_
  (refine vw_go rfl ?_; simp only [go_sem, setCells, setIn, Int.reduceToNat, Int.reduceEq, Int.reduceLT, Int.reduceLE, Int.reduceNeg, Int.reduceSub, Int.reduceAdd, ge_iff_le, gt_iff_lt, ↓reduceIte, Nat.reduceEqDiff, Nat.reduceAdd, Nat.reduceMul, Nat.reduceLT, Nat.reduceLeDiff, Nat.reduceBEq, reduceCtorEq])
  refine vw_cond (t := true) rfl (fun h => ?_) (fun h => ?_)
  case refine_2 => cases h
  have w1 : IntKind.wrap .i64 ((n : Int) + 1) = ((n + 1 : Nat) : Int) := by rw [wrap_i64 (by omega) (by omega)]; rfl
  have w2 : IntKind.wrap .i64 ((s.size : Int) + 1) = (s.size : Int) + 1 := wrap_i64 (by omega) (by omega)
  have w3 : IntKind.wrap .i64 (((n + 1 : Nat) : Int) - 1) = (n : Int) := by rw [wrap_i64 (by omega) (by omega)]; omega
  have m1 : ((s.size : Int) + 1 < ((n + 1 : Nat) : Int)) = False := eq_false (by omega)
  have b1 : (0:Int) ≤ ((n + 1 : Nat) : Int) := by omega
  have b2 : ((n + 1 : Nat) : Int) * (((16:Nat):Int) + 1) ≤ ((bigRow : Nat) : Int) := by simp only [bigRow]; omega
  have b3 : ((n + 1 : Nat) : Int) ≤ ((n + 1 : Nat) : Int) := by omega
  refine vw_last rfl ?_
  simp only [go_sem, setCells, setIn, Int.reduceToNat, Int.reduceEq, Int.reduceLT, Int.reduceLE, Int.reduceNeg, Int.reduceSub, Int.reduceAdd, ge_iff_le, gt_iff_lt, ↓reduceIte, Nat.reduceEqDiff, Nat.reduceAdd, Nat.reduceMul, Nat.reduceLT, Nat.reduceLeDiff, Nat.reduceBEq, reduceCtorEq]
  (refine ⟨_, _, call_rd [0, 0] Tryd.func41 (runs_41 s 47) rfl rfl rfl rfl rfl rfl rfl rfl rfl rfl rfl rfl rfl, ?_⟩)
  rw [← hN]
  simp only [runH, runX, w1, go_sem, setCells, setIn, Int.reduceToNat, Int.reduceEq, Int.reduceLT, Int.reduceLE, Int.reduceNeg, Int.reduceSub, Int.reduceAdd, ge_iff_le, gt_iff_lt, ↓reduceIte, Nat.reduceEqDiff, Nat.reduceAdd, Nat.reduceMul, Nat.reduceLT, Nat.reduceLeDiff, Nat.reduceBEq, reduceCtorEq]
  refine (n_then ?_)
  (refine vw_go rfl ?_; simp only [w2, m1, go_sem, setCells, setIn, Int.reduceToNat, Int.reduceEq, Int.reduceLT, Int.reduceLE, Int.reduceNeg, Int.reduceSub, Int.reduceAdd, ge_iff_le, gt_iff_lt, ↓reduceIte, Nat.reduceEqDiff, Nat.reduceAdd, Nat.reduceMul, Nat.reduceLT, Nat.reduceLeDiff, Nat.reduceBEq, reduceCtorEq])
  (refine vw_go rfl ?_; simp only [b1, b2, b3, Int.toNat_natCast, go_sem, setCells, setIn, Int.reduceToNat, Int.reduceEq, Int.reduceLT, Int.reduceLE, Int.reduceNeg, Int.reduceSub, Int.reduceAdd, ge_iff_le, gt_iff_lt, ↓reduceIte, Nat.reduceEqDiff, Nat.reduceAdd, Nat.reduceMul, Nat.reduceLT, Nat.reduceLeDiff, Nat.reduceBEq, reduceCtorEq])
  (refine vw_go rfl ?_; simp only [w3, go_sem, setCells, setIn, Int.reduceToNat, Int.reduceEq, Int.reduceLT, Int.reduceLE, Int.reduceNeg, Int.reduceSub, Int.reduceAdd, ge_iff_le, gt_iff_lt, ↓reduceIte, Nat.reduceEqDiff, Nat.reduceAdd, Nat.reduceMul, Nat.reduceLT, Nat.reduceLeDiff, Nat.reduceBEq, reduceCtorEq])
  (refine vw_go rfl ?_; simp only [go_sem, setCells, setIn, Int.reduceToNat, Int.reduceEq, Int.reduceLT, Int.reduceLE, Int.reduceNeg, Int.reduceSub, Int.reduceAdd, ge_iff_le, gt_iff_lt, ↓reduceIte, Nat.reduceEqDiff, Nat.reduceAdd, Nat.reduceMul, Nat.reduceLT, Nat.reduceLeDiff, Nat.reduceBEq, reduceCtorEq])
  refine vw_seq ?_
  refine vw_block ?_
  refine vw_loop_tab (α := Nat × Nat) (fun x => n - x.2) (fun x => ⟨tabE [(0, .c (.str (s.extract x.1 s.size))), (1, .c (.str ⟨#[47]⟩)), (2, .c (.int .i64 0)), (3, .c (.int .i64 n)), (9, .al 4 [] 0 1 0 (n + 1)), (10, .c (.int .i64 x.2))], tabS [(4, some ⟨false, 1, fillW sRow zS (names s) x.2, []⟩)], 5⟩)
    (fun x => x.1 ≤ s.size ∧ x.2 ≤ n ∧ (names s).drop x.2 = pcs 47 s (s.size - x.1) x.1 x.1) (x := (0, 0)) ?round ?h0 ?hn
  case h0 => exact ⟨Nat.zero_le _, Nat.zero_le _, rfl⟩
  case hn =>
    (refine norm_to [(333828, 4)] rfl ?_ ?_ <;> simp only [go_sem, Int.reduceToNat, Int.reduceEq, Int.reduceLT, Int.reduceLE, Int.reduceNeg, Int.reduceSub, Int.reduceAdd, ge_iff_le, gt_iff_lt, ↓reduceIte, Nat.reduceEqDiff, Nat.reduceAdd, Nat.reduceMul, Nat.reduceLT, Nat.reduceLeDiff, Nat.reduceBEq, reduceCtorEq])
    · rw [show s.extract (0, 0).1 s.size = s from Lib.whole_piece s]
    · simp [fillW_zero, zS, hn]
  rintro ⟨p, i⟩ ⟨hp, hi, hd⟩
  simp only at hp hi hd
  have hcnt : (s.data.toList.drop p).count 47 = n - i := by
    have h1 := pcs_len (c := 47) (s := s) (s.size - p) p p (by omega)
    rw [← hd, List.length_drop] at h1
    omega
  have e1 : (fillW sRow zS (names s) i).length = n + 1 := by rw [fillW_len (by omega), hn]
  have e2 : (fillW sRow zS (names s) i).getD i [] = zS := fillW_get (by omega)
  have e4 : zS.length = 1 := rfl
  have c1 : (0:Int) ≤ (i:Int) := by omega
  have c2 : (i:Int) < ((n + 1 : Nat) : Int) := by omega
  have c3 : i < n + 1 := by omega
  refine vw_seq ?_
  (refine vw_go rfl ?_; simp only [go_sem, setCells, setIn, Int.reduceToNat, Int.reduceEq, Int.reduceLT, Int.reduceLE, Int.reduceNeg, Int.reduceSub, Int.reduceAdd, ge_iff_le, gt_iff_lt, ↓reduceIte, Nat.reduceEqDiff, Nat.reduceAdd, Nat.reduceMul, Nat.reduceLT, Nat.reduceLeDiff, Nat.reduceBEq, reduceCtorEq])
  refine vw_cond (t := decide ((i : Int) < (n : Int))) rfl (fun h => ?_) (fun h => ?_)
  · simp only [decide_eq_true_eq] at h
    obtain ⟨o, ho, hlt, hcut⟩ := next_cut (c := 47) hp (by omega)
    rw [hcut] at hd
    have hx : (names s)[i]? = some (s.extract p (p + o)) := by
      have : ((names s).drop i)[0]? = some (s.extract p (p + o)) := by rw [hd]; rfl
      rw [List.getElem?_drop] at this; simpa using this
    have hd' : (names s).drop (i + 1) = pcs 47 s (s.size - (p + o + 1)) (p + o + 1) (p + o + 1) := by
      have := drop_of hx
      rw [hd] at this
      exact (List.cons.inj this).2.symm
    have e3 : setCells i 0 [.str (s.extract p (p + o))] (fillW sRow zS (names s) i) = fillW sRow zS (names s) (i + 1) := fillW_set hx rfl rfl
    have rI := runs_42 (s.extract p s.size) 47
    rw [rest_bytes, ho] at rI
    have rz := rest_size s p
    have w4 : IntKind.wrap .i64 ((o : Int) + 0) = (o : Int) := by rw [wrap_i64 (by omega) (by omega)]; omega
    have w5 : IntKind.wrap .i64 ((o : Int) + 1) = ((o + 1 : Nat) : Int) := by rw [wrap_i64 (by omega) (by omega)]; rfl
    have w6 : IntKind.wrap .i64 ((i : Int) + 1) = ((i + 1 : Nat) : Int) := by rw [wrap_i64 (by omega) (by omega)]; rfl
    have d1 : (0:Int) ≤ (o : Int) := by omega
    have d2 : 0 ≤ o ∧ o ≤ s.size - p := by omega
    have d3 : (0:Int) ≤ ((o + 1 : Nat) : Int) := by omega
    have d4 : o + 1 ≤ s.size - p := by omega
    have x1 : (s.extract p s.size).extract 0 o = s.extract p (p + o) := by
      rw [ByteArray.extract_extract, Nat.add_zero, Nat.min_eq_left (by omega)]
    have x2 : (s.extract p s.size).extract (o + 1) (s.size - p) = s.extract (p + o + 1) s.size := by
      rw [ByteArray.extract_extract, show p + (s.size - p) = s.size from by omega, Nat.min_self, Nat.add_assoc]
    refine vw_skip (n_then ?_)
    refine vw_block ?_
    (refine vw_go rfl ?_; simp only [go_sem, setCells, setIn, Int.reduceToNat, Int.reduceEq, Int.reduceLT, Int.reduceLE, Int.reduceNeg, Int.reduceSub, Int.reduceAdd, ge_iff_le, gt_iff_lt, ↓reduceIte, Nat.reduceEqDiff, Nat.reduceAdd, Nat.reduceMul, Nat.reduceLT, Nat.reduceLeDiff, Nat.reduceBEq, reduceCtorEq])
    (refine ⟨_, _, call_rd [0, 0] Tryd.func42 (rI) rfl rfl rfl rfl rfl rfl rfl rfl rfl rfl rfl rfl rfl, ?_⟩)
    simp only [runH, runX, go_sem, setCells, setIn, Int.reduceToNat, Int.reduceEq, Int.reduceLT, Int.reduceLE, Int.reduceNeg, Int.reduceSub, Int.reduceAdd, ge_iff_le, gt_iff_lt, ↓reduceIte, Nat.reduceEqDiff, Nat.reduceAdd, Nat.reduceMul, Nat.reduceLT, Nat.reduceLeDiff, Nat.reduceBEq, reduceCtorEq]
    refine vw_seq ?_
    (refine vw_go rfl ?_; simp only [go_sem, setCells, setIn, Int.reduceToNat, Int.reduceEq, Int.reduceLT, Int.reduceLE, Int.reduceNeg, Int.reduceSub, Int.reduceAdd, ge_iff_le, gt_iff_lt, ↓reduceIte, Nat.reduceEqDiff, Nat.reduceAdd, Nat.reduceMul, Nat.reduceLT, Nat.reduceLeDiff, Nat.reduceBEq, reduceCtorEq])
    refine vw_cond (t := false) (by simp [ev, tabE_cons]) (fun h => ?_) (fun h => ?_)
    · cases h
    refine vw_skip (n_then ?_)
    (refine vw_go rfl ?_; simp only [w4, d1, d2, c1, c2, e1, e2, e3, e4, c3, rz, x1, Int.toNat_natCast, go_sem, Int.reduceToNat, Int.reduceEq, Int.reduceLT, Int.reduceLE, Int.reduceNeg, Int.reduceSub, Int.reduceAdd, ge_iff_le, gt_iff_lt, ↓reduceIte, Nat.reduceEqDiff, Nat.reduceAdd, Nat.reduceMul, Nat.reduceLT, Nat.reduceLeDiff, Nat.reduceBEq, reduceCtorEq])
    (refine vw_go rfl ?_; simp only [z, z', w5, d3, d4, rz, x2, Nat.le_refl, Int.toNat_natCast, go_sem, setCells, setIn, Int.reduceToNat, Int.reduceEq, Int.reduceLT, Int.reduceLE, Int.reduceNeg, Int.reduceSub, Int.reduceAdd, ge_iff_le, gt_iff_lt, ↓reduceIte, Nat.reduceEqDiff, Nat.reduceAdd, Nat.reduceMul, Nat.reduceLT, Nat.reduceLeDiff, Nat.reduceBEq, reduceCtorEq])
    (refine vw_last rfl ?_; simp only [w6, go_sem, setCells, setIn, Int.reduceToNat, Int.reduceEq, Int.reduceLT, Int.reduceLE, Int.reduceNeg, Int.reduceSub, Int.reduceAdd, ge_iff_le, gt_iff_lt, ↓reduceIte, Nat.reduceEqDiff, Nat.reduceAdd, Nat.reduceMul, Nat.reduceLT, Nat.reduceLeDiff, Nat.reduceBEq, reduceCtorEq])
    refine (n_block (n_then ?_))
    refine ⟨(p + o + 1, i + 1), by simp only; omega, ⟨by simp only; omega, by simp only; omega, hd'⟩, ?_⟩
    (refine norm_to [(4, 4)] rfl ?_ ?_ <;> simp only [go_sem, Int.reduceToNat, Int.reduceEq, Int.reduceLT, Int.reduceLE, Int.reduceNeg, Int.reduceSub, Int.reduceAdd, ge_iff_le, gt_iff_lt, ↓reduceIte, Nat.reduceEqDiff, Nat.reduceAdd, Nat.reduceMul, Nat.reduceLT, Nat.reduceLeDiff, Nat.reduceBEq, reduceCtorEq])
  · simp only [decide_eq_false_iff_not] at h
    obtain rfl : i = n := by omega
    rw [no_cut hp (by omega)] at hd
    have hx : (names s)[i]? = some (s.extract p s.size) := by
      have : ((names s).drop i)[0]? = some (s.extract p s.size) := by rw [hd]; rfl
      rw [List.getElem?_drop] at this; simpa using this
    have e3 : setCells i 0 [.str (s.extract p s.size)] (fillW sRow zS (names s) i) = fillW sRow zS (names s) (i + 1) := fillW_set hx rfl rfl
    have d3 : (0:Int) ≤ ((i + 1 : Nat) : Int) := by omega
    refine vw_exit (x_then (x_then (x_block (n_then ?_))))
    (refine vw_go rfl ?_; simp only [c1, c2, e1, e2, e3, e4, c3, Int.toNat_natCast, go_sem, Int.reduceToNat, Int.reduceEq, Int.reduceLT, Int.reduceLE, Int.reduceNeg, Int.reduceSub, Int.reduceAdd, ge_iff_le, gt_iff_lt, ↓reduceIte, Nat.reduceEqDiff, Nat.reduceAdd, Nat.reduceMul, Nat.reduceLT, Nat.reduceLeDiff, Nat.reduceBEq, reduceCtorEq])
    (refine vw_go rfl ?_; simp only [w1, d3, Nat.le_refl, Int.toNat_natCast, Nat.sub_zero, go_sem, setCells, setIn, Int.reduceToNat, Int.reduceEq, Int.reduceLT, Int.reduceLE, Int.reduceNeg, Int.reduceSub, Int.reduceAdd, ge_iff_le, gt_iff_lt, ↓reduceIte, Nat.reduceEqDiff, Nat.reduceAdd, Nat.reduceMul, Nat.reduceLT, Nat.reduceLeDiff, Nat.reduceBEq, reduceCtorEq])
    rw [← fillW_end sRow zS (names s), hn]
    exact vw_ret (e_ret (ret_of rfl rfl (by simp [RB]) rfl (take_whole (R := ⟨false, 1, fillW sRow zS (names s) (i + 1), []⟩) rfl rfl rfl (by rw [fillW_len (by omega), hn]))))
end Go.Proofs.YtplnflkabpcaaaaDoor
