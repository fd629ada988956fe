/- Names of a path: the specification's loop. -/
import Derived.Test.YtplnflkabpcaaaaDoorFName
import Derived.Test.YtplnflkabpcaaaaDoorFMark
import Derived.Test.YtplnflkabpcaaaaDoorFPrim
import Derived.Lib.IndexLaws
namespace Go.Proofs.YtplnflkabpcaaaaDoor
open Go.VM
set_option maxRecDepth 100000
set_option linter.unusedSimpArgs false
set_option linter.unusedVariables false
attribute [local congr] vw_congr runV_congr runH_congr runW_congr runX_congr

/-- The pieces of a text between bytes c, from a piece that began at 'fr', read on at 'i', so many bytes. -/
def pcs (c : UInt8) (s : ByteArray) : Nat → Nat → Nat → List ByteArray
  | 0, fr, i => [s.extract fr i]
  | n + 1, fr, i => if s.data.toList.getD i 0 = c then s.extract fr i :: pcs c s n (i + 1) (i + 1) else pcs c s n fr (i + 1)
def names (s : ByteArray) : List ByteArray := pcs 47 s s.size 0 0
theorem pcs_hit {c : UInt8} {s : ByteArray} {fr i : Nat} (hi : i < s.size) (h : s.data.toList.getD i 0 = c) : pcs c s (s.size - i) fr i = s.extract fr i :: pcs c s (s.size - (i + 1)) (i + 1) (i + 1) := by
  rw [show s.size - i = (s.size - (i + 1)) + 1 from by omega, pcs, if_pos h]
theorem pcs_miss {c : UInt8} {s : ByteArray} {fr i : Nat} (hi : i < s.size) (h : ¬ s.data.toList.getD i 0 = c) : pcs c s (s.size - i) fr i = pcs c s (s.size - (i + 1)) fr (i + 1) := by
  rw [show s.size - i = (s.size - (i + 1)) + 1 from by omega, pcs, if_neg h]
theorem pcs_end {c : UInt8} {s : ByteArray} {fr : Nat} : pcs c s (s.size - s.size) fr s.size = [s.extract fr s.size] := by
  rw [Nat.sub_self, pcs]
theorem pcs_skip {c : UInt8} {s : ByteArray} {fr i : Nat} : ∀ (k : Nat), i + k ≤ s.size → (∀ j, j < k → ¬ s.data.toList.getD (i + j) 0 = c) → pcs c s (s.size - i) fr i = pcs c s (s.size - (i + k)) fr (i + k)
  | 0, _, _ => rfl
  | k + 1, h, hj => by
    rw [pcs_skip k (by omega) (fun j h' => hj j (by omega)), pcs_miss (by omega) (hj k (by omega))]; rfl
theorem pcs_len {c : UInt8} {s : ByteArray} : ∀ (n fr i : Nat), i + n = s.size → (pcs c s n fr i).length = (s.data.toList.drop i).count c + 1
  | 0, fr, i, h => by
    rw [pcs, List.drop_of_length_le (by rw [bs_len]; omega)]; rfl
  | n + 1, fr, i, h => by
    obtain ⟨b, hb⟩ : ∃ b, s.data.toList[i]? = some b := ⟨_, List.getElem?_eq_getElem (by rw [bs_len]; omega)⟩
    rw [pcs, drop_of hb, List.count_cons, getD_of hb]
    by_cases e : b = c
    · rw [if_pos e, List.length_cons, pcs_len n (i + 1) (i + 1) (by omega)]; simp [e]
    · rw [if_neg e, pcs_len n fr (i + 1) (by omega)]; simp [e]

theorem names_len (s : ByteArray) : (names s).length = s.data.toList.count 47 + 1 := by
  have := pcs_len (c := 47) (s := s) s.size 0 0 (by omega)
  rw [names, this, List.drop_zero]
theorem names_le (s : ByteArray) : (names s).length ≤ s.size + 1 := by
  have h : s.data.toList.count 47 ≤ s.data.toList.length := List.count_le_length
  rw [names_len, ← bs_len]; omega

/-- What the specification takes for a path's names. -/
def namesZ (s : ByteArray) : List ByteArray := if s = ⟨#[]⟩ then [] else names s
theorem size_zero {s : ByteArray} (h : s = ⟨#[]⟩) : s.size = 0 := by subst h; rfl

theorem b_iff (b : UInt8) (k : Nat) (hk : k < 256) : ((b.toNat : Int) = (k : Int)) ↔ b = UInt8.ofNat k := by
  constructor
  · intro h
    have : b.toNat = k := by omega
    rw [← this]; simp
  · intro h; subst h; simp; omega

theorem runs_17 (s : ByteArray) (hs : s.size ≤ 2 ^ 20) : Runs Tryd.prog 17 [.one (.v (.str s))] [.one (.v (.list true 1 ((namesZ s).map sRow)))] [] := by
  refine runs_tab (tab := [(0, .c (.str s))]) (rts := []) (n := 37) (k := 1) Tryd.func17 rfl rfl (by simp) rfl (fun t => ?_) rfl ?_
  · rcases t with _ | t <;> rfl
  (refine vw_go rfl ?_; simp only [go_sem, setCells, setIn, Int.reduceToNat, Int.reduceEq, Int.reduceLT, Int.reduceLE, Int.reduceNeg, Int.reduceSub, Int.reduceAdd, ge_iff_le, gt_iff_lt, ↓reduceIte, Nat.reduceEqDiff, Nat.reduceAdd, Nat.reduceMul, Nat.reduceLT, Nat.reduceLeDiff, Nat.reduceBEq, reduceCtorEq])
  (refine vw_go rfl ?_; simp only [go_sem, setCells, setIn, Int.reduceToNat, Int.reduceEq, Int.reduceLT, Int.reduceLE, Int.reduceNeg, Int.reduceSub, Int.reduceAdd, ge_iff_le, gt_iff_lt, ↓reduceIte, Nat.reduceEqDiff, Nat.reduceAdd, Nat.reduceMul, Nat.reduceLT, Nat.reduceLeDiff, Nat.reduceBEq, reduceCtorEq])
  (refine vw_go rfl ?_; simp only [go_sem, setCells, setIn, Int.reduceToNat, Int.reduceEq, Int.reduceLT, Int.reduceLE, Int.reduceNeg, Int.reduceSub, Int.reduceAdd, ge_iff_le, gt_iff_lt, ↓reduceIte, Nat.reduceEqDiff, Nat.reduceAdd, Nat.reduceMul, Nat.reduceLT, Nat.reduceLeDiff, Nat.reduceBEq, reduceCtorEq])
  refine vw_seq ?_
  (refine vw_go rfl ?_; simp only [go_sem, setCells, setIn, Int.reduceToNat, Int.reduceEq, Int.reduceLT, Int.reduceLE, Int.reduceNeg, Int.reduceSub, Int.reduceAdd, ge_iff_le, gt_iff_lt, ↓reduceIte, Nat.reduceEqDiff, Nat.reduceAdd, Nat.reduceMul, Nat.reduceLT, Nat.reduceLeDiff, Nat.reduceBEq, reduceCtorEq])
  refine vw_block ?_
  refine vw_loop_tab (α := List ByteArray × Nat × Nat) (fun x => s.size + 1 - x.2.2) (fun x => ⟨tabE [(0, .c (.str s)), (3, .al 1 [] 0 1 0 x.1.length), (4, .c (.int .i64 x.2.1)), (5, .c (.int .i64 x.2.2))], tabS [(1, some ⟨false, 1, x.1.map sRow, []⟩)], 2⟩)
    (fun x => x.2.1 ≤ x.2.2 ∧ x.2.2 ≤ s.size + 1 ∧ x.1.length ≤ x.2.2 ∧ (s = ⟨#[]⟩ → x.1 = []) ∧ (x.2.2 ≤ s.size → x.1 ++ pcs 47 s (s.size - x.2.2) x.2.1 x.2.2 = names s) ∧ (x.2.2 = s.size + 1 → x.1 = names s)) (x := ([], 0, 0)) ?round ?h0 ?hn
  case h0 => exact ⟨Nat.le_refl _, Nat.zero_le _, Nat.le_refl _, fun _ => rfl, fun _ => rfl, fun h => by simp at h⟩
  case hn =>
    (refine norm_to [(65537, 1)] rfl ?_ ?_ <;> simp only [go_sem, Int.reduceToNat, Int.reduceEq, Int.reduceLT, Int.reduceLE, Int.reduceNeg, Int.reduceSub, Int.reduceAdd, ge_iff_le, gt_iff_lt, ↓reduceIte, Nat.reduceEqDiff, Nat.reduceAdd, Nat.reduceMul, Nat.reduceLT, Nat.reduceLeDiff, Nat.reduceBEq, reduceCtorEq])
    · simp
  rintro ⟨out, fr, i⟩ ⟨h1, h2, h3, h4, h5, h6⟩
  simp only at h1 h2 h3 h4 h5 h6
  refine vw_seq ?_
  by_cases hc : (i : Int) ≤ (s.size : Int)
  case neg =>
    (refine vw_go rfl ?_; simp only [hc, go_sem, setCells, setIn, Int.reduceToNat, Int.reduceEq, Int.reduceLT, Int.reduceLE, Int.reduceNeg, Int.reduceSub, Int.reduceAdd, ge_iff_le, gt_iff_lt, ↓reduceIte, Nat.reduceEqDiff, Nat.reduceAdd, Nat.reduceMul, Nat.reduceLT, Nat.reduceLeDiff, Nat.reduceBEq, reduceCtorEq])
    refine vw_cond (t := false) rfl (fun h => ?_) (fun h => ?_)
    · cases h
    refine vw_exit (x_then (x_then (x_block (n_then ?_))))
    (refine vw_go rfl ?_; simp only [go_sem, setCells, setIn, Int.reduceToNat, Int.reduceEq, Int.reduceLT, Int.reduceLE, Int.reduceNeg, Int.reduceSub, Int.reduceAdd, ge_iff_le, gt_iff_lt, ↓reduceIte, Nat.reduceEqDiff, Nat.reduceAdd, Nat.reduceMul, Nat.reduceLT, Nat.reduceLeDiff, Nat.reduceBEq, reduceCtorEq])
    have e : out = names s := h6 (by omega)
    have hz : ¬ s = ⟨#[]⟩ := fun h => by
      have := h4 h
      have h' := names_len s
      rw [← e, this] at h'
      simp at h'
    rw [show namesZ s = out from by rw [namesZ, if_neg hz, e]]
    exact vw_ret (e_ret (ret_by rfl rfl (by simp [RB]) rfl (by simp only [takeCs, takeC, go_sem, setCells, setIn, Int.reduceToNat, Int.reduceEq, Int.reduceLT, Int.reduceLE, Int.reduceNeg, Int.reduceSub, Int.reduceAdd, ge_iff_le, gt_iff_lt, ↓reduceIte, Nat.reduceEqDiff, Nat.reduceAdd, Nat.reduceMul, Nat.reduceLT, Nat.reduceLeDiff, Nat.reduceBEq, reduceCtorEq])))
  by_cases hz : s = ⟨#[]⟩
  · have hz' : decide (s = ⟨#[]⟩) = true := by simp [hz]
    (refine vw_go rfl ?_; simp only [hc, hz', go_sem, setCells, setIn, Int.reduceToNat, Int.reduceEq, Int.reduceLT, Int.reduceLE, Int.reduceNeg, Int.reduceSub, Int.reduceAdd, ge_iff_le, gt_iff_lt, ↓reduceIte, Nat.reduceEqDiff, Nat.reduceAdd, Nat.reduceMul, Nat.reduceLT, Nat.reduceLeDiff, Nat.reduceBEq, reduceCtorEq])
    refine vw_cond (t := false) rfl (fun h => ?_) (fun h => ?_)
    · cases h
    refine vw_exit (x_then (x_then (x_block (n_then ?_))))
    (refine vw_go rfl ?_; simp only [go_sem, setCells, setIn, Int.reduceToNat, Int.reduceEq, Int.reduceLT, Int.reduceLE, Int.reduceNeg, Int.reduceSub, Int.reduceAdd, ge_iff_le, gt_iff_lt, ↓reduceIte, Nat.reduceEqDiff, Nat.reduceAdd, Nat.reduceMul, Nat.reduceLT, Nat.reduceLeDiff, Nat.reduceBEq, reduceCtorEq])
    rw [show namesZ s = out from by rw [namesZ, if_pos hz, h4 hz]]
    exact vw_ret (e_ret (ret_by rfl rfl (by simp [RB]) rfl (by simp only [takeCs, takeC, go_sem, setCells, setIn, Int.reduceToNat, Int.reduceEq, Int.reduceLT, Int.reduceLE, Int.reduceNeg, Int.reduceSub, Int.reduceAdd, ge_iff_le, gt_iff_lt, ↓reduceIte, Nat.reduceEqDiff, Nat.reduceAdd, Nat.reduceMul, Nat.reduceLT, Nat.reduceLeDiff, Nat.reduceBEq, reduceCtorEq])))
  have hz' : decide (s = ⟨#[]⟩) = false := by simp [hz]
  (refine vw_go rfl ?_; simp only [hc, hz', go_sem, setCells, setIn, Int.reduceToNat, Int.reduceEq, Int.reduceLT, Int.reduceLE, Int.reduceNeg, Int.reduceSub, Int.reduceAdd, ge_iff_le, gt_iff_lt, ↓reduceIte, Nat.reduceEqDiff, Nat.reduceAdd, Nat.reduceMul, Nat.reduceLT, Nat.reduceLeDiff, Nat.reduceBEq, reduceCtorEq])
  refine vw_cond (t := true) rfl (fun h => ?_) (fun h => ?_)
  case refine_2 => cases h
  refine vw_skip (n_then ?_)
  have c0 : (0:Int) ≤ (fr : Int) := by omega
  have c1 : (0:Int) ≤ (i : Int) := by omega
  have c2 : fr ≤ i ∧ i ≤ s.size := by omega
  have B1 : ¬ (out.length + 1 + 1) * (16 + 1) > bigRow := by simp only [bigRow]; omega
  have qt : (out.map sRow ++ [[T.str (s.extract fr i)]]).take (out.length + 1) = out.map sRow ++ [[T.str (s.extract fr i)]] := by
    rw [List.take_of_length_le (by simp)]
  have w2 : IntKind.wrap .i64 ((i:Int) + 1) = ((i + 1 : Nat) : Int) := by rw [wrap_i64 (by omega) (by omega)]; rfl
  refine vw_seq ?_
  refine vw_block ?_
  by_cases hE : i = s.size
  · subst hE
    (refine vw_go rfl ?_; simp only [go_sem, setCells, setIn, Int.reduceToNat, Int.reduceEq, Int.reduceLT, Int.reduceLE, Int.reduceNeg, Int.reduceSub, Int.reduceAdd, ge_iff_le, gt_iff_lt, ↓reduceIte, Nat.reduceEqDiff, Nat.reduceAdd, Nat.reduceMul, Nat.reduceLT, Nat.reduceLeDiff, Nat.reduceBEq, reduceCtorEq])
    refine vw_cond (t := true) rfl (fun h => ?_) (fun h => ?_)
    case refine_2 => cases h
    (refine vw_go rfl ?_; simp only [c0, c1, c2, h1, Nat.le_refl, Int.toNat_natCast, range1, List.replicate_succ, List.replicate_zero, List.flatten_cons, List.flatten_nil, List.range_zero, gt_iff_lt, B1, List.length_append, qt, go_sem, setCells, setIn, Int.reduceToNat, Int.reduceEq, Int.reduceLT, Int.reduceLE, Int.reduceNeg, Int.reduceSub, Int.reduceAdd, ge_iff_le, gt_iff_lt, ↓reduceIte, Nat.reduceEqDiff, Nat.reduceAdd, Nat.reduceMul, Nat.reduceLT, Nat.reduceLeDiff, Nat.reduceBEq, reduceCtorEq])
    (refine vw_last rfl ?_; simp only [w2, go_sem, setCells, setIn, Int.reduceToNat, Int.reduceEq, Int.reduceLT, Int.reduceLE, Int.reduceNeg, Int.reduceSub, Int.reduceAdd, ge_iff_le, gt_iff_lt, ↓reduceIte, Nat.reduceEqDiff, Nat.reduceAdd, Nat.reduceMul, Nat.reduceLT, Nat.reduceLeDiff, Nat.reduceBEq, reduceCtorEq])
    refine (n_block (n_then ?_))
    (refine vw_last rfl ?_; simp only [w2, go_sem, setCells, setIn, Int.reduceToNat, Int.reduceEq, Int.reduceLT, Int.reduceLE, Int.reduceNeg, Int.reduceSub, Int.reduceAdd, ge_iff_le, gt_iff_lt, ↓reduceIte, Nat.reduceEqDiff, Nat.reduceAdd, Nat.reduceMul, Nat.reduceLT, Nat.reduceLeDiff, Nat.reduceBEq, reduceCtorEq])
    refine (n_then ?_)
    have e := h5 (Nat.le_refl _)
    rw [pcs_end] at e
    refine ⟨(out ++ [s.extract fr s.size], s.size + 1, s.size + 1), by simp only; omega, ⟨by simp only; omega, by simp only; omega, by simp; omega, fun h => absurd h hz, fun h => by simp only at h; omega, fun _ => e⟩, ?_⟩
    (refine norm_to [(137218, 1)] rfl ?_ ?_ <;> simp only [go_sem, Int.reduceToNat, Int.reduceEq, Int.reduceLT, Int.reduceLE, Int.reduceNeg, Int.reduceSub, Int.reduceAdd, ge_iff_le, gt_iff_lt, ↓reduceIte, Nat.reduceEqDiff, Nat.reduceAdd, Nat.reduceMul, Nat.reduceLT, Nat.reduceLeDiff, Nat.reduceBEq, reduceCtorEq])
    · simp
    · simp [sRow]
  rcases get_or s.data.toList i with ⟨b, hx, hlt⟩ | ⟨_, hge⟩
  case inr => rw [bs_len] at hge; omega
  rw [bs_len] at hlt
  have g := getD_of (d := 0) hx
  have c3 : (i:Int) < (s.size : Int) := by omega
  have c4 : ((i:Int) = (s.size : Int)) = False := eq_false (by omega)
  have e := h5 (by omega)
  (refine vw_go rfl ?_; simp only [c1, c3, c4, Int.toNat_natCast, g, go_sem, setCells, setIn, Int.reduceToNat, Int.reduceEq, Int.reduceLT, Int.reduceLE, Int.reduceNeg, Int.reduceSub, Int.reduceAdd, ge_iff_le, gt_iff_lt, ↓reduceIte, Nat.reduceEqDiff, Nat.reduceAdd, Nat.reduceMul, Nat.reduceLT, Nat.reduceLeDiff, Nat.reduceBEq, reduceCtorEq])
  refine vw_cond (t := decide ((b.toNat : Int) = 47)) rfl (fun h => ?_) (fun h => ?_)
  · simp only [decide_eq_true_eq] at h
    have hb : b = 47 := (b_iff b 47 (by decide)).1 h
    rw [pcs_hit hlt (g.trans hb), ← List.singleton_append, ← List.append_assoc] at e
    (refine vw_go rfl ?_; simp only [c0, c1, c2, h1, Nat.le_refl, Int.toNat_natCast, range1, List.replicate_succ, List.replicate_zero, List.flatten_cons, List.flatten_nil, List.range_zero, gt_iff_lt, B1, List.length_append, qt, go_sem, setCells, setIn, Int.reduceToNat, Int.reduceEq, Int.reduceLT, Int.reduceLE, Int.reduceNeg, Int.reduceSub, Int.reduceAdd, ge_iff_le, gt_iff_lt, ↓reduceIte, Nat.reduceEqDiff, Nat.reduceAdd, Nat.reduceMul, Nat.reduceLT, Nat.reduceLeDiff, Nat.reduceBEq, reduceCtorEq])
    (refine vw_last rfl ?_; simp only [w2, go_sem, setCells, setIn, Int.reduceToNat, Int.reduceEq, Int.reduceLT, Int.reduceLE, Int.reduceNeg, Int.reduceSub, Int.reduceAdd, ge_iff_le, gt_iff_lt, ↓reduceIte, Nat.reduceEqDiff, Nat.reduceAdd, Nat.reduceMul, Nat.reduceLT, Nat.reduceLeDiff, Nat.reduceBEq, reduceCtorEq])
    refine (n_block (n_then ?_))
    (refine vw_last rfl ?_; simp only [w2, go_sem, setCells, setIn, Int.reduceToNat, Int.reduceEq, Int.reduceLT, Int.reduceLE, Int.reduceNeg, Int.reduceSub, Int.reduceAdd, ge_iff_le, gt_iff_lt, ↓reduceIte, Nat.reduceEqDiff, Nat.reduceAdd, Nat.reduceMul, Nat.reduceLT, Nat.reduceLeDiff, Nat.reduceBEq, reduceCtorEq])
    refine (n_then ?_)
    refine ⟨(out ++ [s.extract fr i], i + 1, i + 1), by simp only; omega, ⟨by simp only; omega, by simp only; omega, by simp; omega, fun h => absurd h hz, fun _ => e, fun h => by simp only at h; omega⟩, ?_⟩
    (refine norm_to [(137218, 1)] rfl ?_ ?_ <;> simp only [go_sem, Int.reduceToNat, Int.reduceEq, Int.reduceLT, Int.reduceLE, Int.reduceNeg, Int.reduceSub, Int.reduceAdd, ge_iff_le, gt_iff_lt, ↓reduceIte, Nat.reduceEqDiff, Nat.reduceAdd, Nat.reduceMul, Nat.reduceLT, Nat.reduceLeDiff, Nat.reduceBEq, reduceCtorEq])
    · simp
    · simp [sRow]
  · simp only [decide_eq_false_iff_not] at h
    have hb : ¬ b = 47 := fun h' => h ((b_iff b 47 (by decide)).2 h')
    rw [pcs_miss hlt (by rw [g]; exact hb)] at e
    refine vw_skip (n_block (n_then ?_))
    (refine vw_last rfl ?_; simp only [w2, go_sem, setCells, setIn, Int.reduceToNat, Int.reduceEq, Int.reduceLT, Int.reduceLE, Int.reduceNeg, Int.reduceSub, Int.reduceAdd, ge_iff_le, gt_iff_lt, ↓reduceIte, Nat.reduceEqDiff, Nat.reduceAdd, Nat.reduceMul, Nat.reduceLT, Nat.reduceLeDiff, Nat.reduceBEq, reduceCtorEq])
    refine (n_then ?_)
    refine ⟨(out, fr, i + 1), by simp only; omega, ⟨by simp only; omega, by simp only; omega, by simp only; omega, h4, fun _ => e, fun h => by simp only at h; omega⟩, ?_⟩
    (refine norm_to [(1, 1)] rfl ?_ ?_ <;> simp only [go_sem, Int.reduceToNat, Int.reduceEq, Int.reduceLT, Int.reduceLE, Int.reduceNeg, Int.reduceSub, Int.reduceAdd, ge_iff_le, gt_iff_lt, ↓reduceIte, Nat.reduceEqDiff, Nat.reduceAdd, Nat.reduceMul, Nat.reduceLT, Nat.reduceLeDiff, Nat.reduceBEq, reduceCtorEq])
end Go.Proofs.YtplnflkabpcaaaaDoor
