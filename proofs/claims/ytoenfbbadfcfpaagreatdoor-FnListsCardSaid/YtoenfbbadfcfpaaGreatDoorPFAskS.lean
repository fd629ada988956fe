/- Split of both, and its law. Put values: trees, and the walks of their size, their copy, their comparing (one; a slice). Printed by a program (tfun.py). What is asked of a volume, of the reference: the small parts. -/
import Derived.Test.YtoenfbbadfcfpaaGreatDoorPFWalk
import Derived.Test.YtoenfbbadfcfpaaGreatDoorPFIn
import Derived.Test.YtoenfbbadfcfpaaGreatDoorPFGoer
import Derived.Test.YtoenfbbadfcfpaaGreatDoorPFTell
set_option linter.unusedSimpArgs false
set_option linter.unusedVariables false
namespace Go.Proofs.YtoenfbbadfcfpaaGreatDoor
open Go.VM
set_option maxRecDepth 100000
attribute [local congr] vw_congr runV_congr runH_congr runW_congr runX_congr stuckV_congr stuckX_congr
/-- Behind the last '/' of so many bytes; 0 where none is. -/
def lastCut (l : List UInt8) : Nat → Nat
  | 0 => 0
  | n + 1 => if l.getD n 0 = 47 then n + 1 else lastCut l n
theorem lastCut_le (l : List UInt8) : ∀ n, lastCut l n ≤ n
  | 0 => Nat.le_refl _
  | n + 1 => by
    rw [lastCut]; split
    · exact Nat.le_refl _
    · have := lastCut_le l n; omega
def splitF (s : ByteArray) : ByteArray × ByteArray × Bool :=
  if s = ⟨#[]⟩ ∨ pathOk s = false then (⟨#[]⟩, ⟨#[]⟩, false)
  else if lastCut s.data.toList s.size = 0 then (⟨#[]⟩, s, true)
  else (s.extract 0 (lastCut s.data.toList s.size - 1), s.extract (lastCut s.data.toList s.size) s.size, true)
theorem runs_109 (s : ByteArray) (hs : s.size < 2 ^ 62) : Runs Tryz.prog 109 [.one (.v (.str s)), .one (.v (.int .u8 47))] [.one (.v (.int .i64 ((lastCut s.data.toList s.size : Nat) - 1)))] [] := by
  refine runs_tab (tab := [(0, .c (.str s)), (1, .c (.int .u8 47))]) (rts := []) (n := 19) (k := 2) Tryz.func109 rfl rfl (by simp) rfl (fun t => ?_) rfl ?_
  · rcases t with _ | _ | t <;> rfl
  have w0 : IntKind.wrap .i64 ((s.size : Int) - 1) = (s.size : Int) - 1 := wrap_i64 (by omega) (by omega)
  refine vw_go rfl ?_; simp only [go_sem, setCells, setIn]
  refine vw_seq ?_
  refine vw_go rfl ?_; simp only [w0, go_sem, setCells, setIn]
  refine vw_block ?_
  refine vw_loop_tab (α := Nat) (fun x => x) (fun x => ⟨tabE [(0, .c (.str s)), (1, .c (.int .u8 47)), (5, .c (.int .i64 ((x : Int) - 1)))], tabS [], 2⟩)
    (fun x => x ≤ s.size ∧ lastCut s.data.toList x = lastCut s.data.toList s.size) (x := s.size) ?round ?h0 ?hn
  case h0 => exact ⟨Nat.le_refl _, rfl⟩
  case hn => (refine norm_to [] rfl ?_ ?_ <;> simp only [go_sem])
  rintro k ⟨hk, hm⟩
  refine vw_seq ?_
  rcases k with _ | k
  · (refine vw_go rfl ?_; simp only [go_sem, setCells, setIn])
    refine vw_cond (t := false) (by simp [ev, tabE_cons]) (fun h => ?_) (fun h => ?_)
    · cases h
    refine vw_exit (x_then (x_then (x_block (n_then ?_))))
    refine vw_go rfl ?_; simp only [go_sem, setCells, setIn]
    rw [← hm]
    exact vw_ret (e_ret (ret_of rfl rfl (by simp [RB]) rfl rfl))
  rcases get_or s.data.toList k with ⟨b, hx, hlt⟩ | ⟨_, hge⟩
  case inr => rw [bs_len] at hge; omega
  have g := getD_of (d := 0) hx
  have e0 : ((k + 1 : Nat) : Int) - 1 = (k : Int) := by omega
  have c1 : (0:Int) ≤ (k:Int) := by omega
  have c2 : (k:Int) < (s.size : Int) := by omega
  rw [lastCut, g] at hm
  refine vw_go rfl ?_; simp only [e0, c1, go_sem, setCells, setIn]
  refine vw_cond (t := true) (by simp [ev, tabE_cons]) (fun h => ?_) (fun h => ?_)
  case refine_2 => cases h
  refine vw_skip (n_then ?_)
  refine vw_seq ?_
  refine vw_block ?_
  refine vw_go rfl ?_; simp only [e0, c1, c2, Int.toNat_natCast, g, go_sem, setCells, setIn]
  refine vw_cond (t := decide ((b.toNat : Int) = 47)) rfl (fun h => ?_) (fun h => ?_)
  · simp only [decide_eq_true_eq] at h
    rw [if_pos (show b = 47 from (b_iff b 47 (by decide)).1 h)] at hm
    refine vw_go rfl ?_; simp only [go_sem, setCells, setIn]
    rw [← hm, e0]
    exact vw_ret (r_block (r_then (r_then (r_block (r_then (e_ret (ret_of rfl rfl (by simp [RB]) rfl rfl)))))))
  · simp only [decide_eq_false_iff_not] at h
    rw [if_neg (fun h' : b = 47 => h ((b_iff b 47 (by decide)).2 h'))] at hm
    refine vw_skip (n_block (n_then ?_))
    have w2 : IntKind.wrap .i64 ((k:Int) - 1) = (k : Int) - 1 := wrap_i64 (by omega) (by omega)
    refine vw_last rfl ?_; simp only [w2, go_sem, setCells, setIn]
    refine (n_then ?_)
    refine ⟨k, by omega, ⟨by omega, hm⟩, ?_⟩
    refine norm_to [] rfl ?_ ?_ <;> simp only [go_sem]
theorem runs_86 (s : ByteArray) (hs : s.size < 2 ^ 62) : Runs Tryz.prog 86 [.one (.v (.str s)), .one (.v (.int .u8 47))] [.one (.v (.int .i64 ((lastCut s.data.toList s.size : Nat) - 1)))] [] := by
  refine runs_tab (tab := [(0, .c (.str s)), (1, .c (.int .u8 47))]) (rts := []) (n := 8) (k := 2) Tryz.func86 rfl rfl (by simp) rfl (fun t => ?_) rfl ?_
  · rcases t with _ | _ | t <;> rfl
  refine vw_go rfl ?_; simp only [go_sem, setCells, setIn]
  refine vw_go rfl ?_; simp only [go_sem, setCells, setIn]
  refine ⟨_, _, call_rd [0, 0] Tryz.func109 (runs_109 s hs) rfl rfl rfl rfl rfl rfl rfl rfl rfl rfl rfl rfl rfl, ?_⟩
  simp only [runH, runX, go_sem, setCells, setIn]
  exact vw_ret (e_ret (ret_of rfl rfl (by simp [RB]) rfl rfl))
theorem splitF_nil {s : ByteArray} (h : s = ⟨#[]⟩) : splitF s = (⟨#[]⟩, ⟨#[]⟩, false) := by rw [splitF, if_pos (.inl h)]
theorem splitF_bad {s : ByteArray} (h : pathOk s = false) : splitF s = (⟨#[]⟩, ⟨#[]⟩, false) := by rw [splitF, if_pos (.inr h)]
theorem splitF_top {s : ByteArray} (h1 : ¬ s = ⟨#[]⟩) (h2 : pathOk s = true) (h3 : lastCut s.data.toList s.size = 0) : splitF s = (⟨#[]⟩, s, true) := by
  rw [splitF, if_neg (by simp [h1, h2]), if_pos h3]
theorem splitF_cut {s : ByteArray} {k : Nat} (h1 : ¬ s = ⟨#[]⟩) (h2 : pathOk s = true) (h3 : lastCut s.data.toList s.size = k + 1) : splitF s = (s.extract 0 k, s.extract (k + 1) s.size, true) := by
  rw [splitF, if_neg (by simp [h1, h2]), if_neg (by omega), h3]; rfl
theorem runs_57 (s : ByteArray) (hs : s.size ≤ 2 ^ 20) : Runs Tryz.prog 57 [.one (.v (.str s))] [.one (.v (.str (splitF s).1)), .one (.v (.str (splitF s).2.1)), .one (.v (.bool (splitF s).2.2))] [] := by
  refine runs_tab (tab := [(0, .c (.str s))]) (rts := []) (n := 36) (k := 1) Tryz.func57 rfl rfl (by simp) rfl (fun t => ?_) rfl ?_
  · rcases t with _ | t <;> rfl
  refine vw_go rfl ?_; simp only [go_sem, setCells, setIn]
  refine vw_seq ?_
  by_cases hz : s = ⟨#[]⟩
  · have hz' : decide (s = ⟨#[]⟩) = true := by simp [hz]
    refine vw_go rfl ?_; simp only [hz', go_sem, setCells, setIn]
    refine vw_cond (t := true) rfl (fun h => ?_) (fun h => ?_)
    case refine_2 => cases h
    refine vw_go rfl ?_; simp only [go_sem, setCells, setIn]
    rw [splitF_nil hz]
    exact vw_ret (r_then (e_ret (ret_of rfl rfl (by simp [RB]) rfl rfl)))
  have hz' : decide (s = ⟨#[]⟩) = false := by simp [hz]
  refine vw_go rfl ?_; simp only [hz', go_sem, setCells, setIn]
  refine ⟨_, _, call_rd [0] Tryz.func62 (runs_62 s hs) rfl rfl rfl rfl rfl rfl rfl rfl rfl rfl rfl rfl rfl, ?_⟩
  cases hp : pathOk s
  · simp only [runH, runX, go_sem, setCells, setIn]
    refine vw_cond (t := true) rfl (fun h => ?_) (fun h => ?_)
    case refine_2 => cases h
    refine vw_go rfl ?_; simp only [go_sem, setCells, setIn]
    rw [splitF_bad hp]
    exact vw_ret (r_then (e_ret (ret_of rfl rfl (by simp [RB]) rfl rfl)))
  simp only [runH, runX, go_sem, setCells, setIn]
  refine vw_cond (t := false) rfl (fun h => ?_) (fun h => ?_)
  · cases h
  refine vw_skip (n_then ?_)
  refine vw_go rfl ?_; simp only [go_sem, setCells, setIn]
  refine vw_seq ?_
  refine vw_block ?_
  refine vw_loop_tab (α := Nat) (fun x => x) (fun x => ⟨tabE [(0, .c (.str s)), (5, .c (.int .i64 x))], tabS [], 1⟩)
    (fun x => x ≤ s.size ∧ lastCut s.data.toList x = lastCut s.data.toList s.size) (x := s.size) ?round ?h0 ?hn
  case h0 => exact ⟨Nat.le_refl _, rfl⟩
  case hn => (refine norm_to [] rfl ?_ ?_ <;> simp only [go_sem])
  rintro k ⟨hk, hm⟩
  refine vw_seq ?_
  rcases k with _ | k
  · (refine vw_go rfl ?_; simp only [Int.natCast_zero, Int.lt_irrefl, go_sem, setCells, setIn])
    refine vw_cond (t := false) (by simp [ev, tabE_cons]) (fun h => ?_) (fun h => ?_)
    · cases h
    refine vw_exit (x_then (x_then (x_block (n_then ?_))))
    refine vw_seq ?_
    refine vw_go rfl ?_; simp only [go_sem, setCells, setIn]
    refine vw_cond (t := true) rfl (fun h => ?_) (fun h => ?_)
    case refine_2 => cases h
    refine vw_go rfl ?_; simp only [go_sem, setCells, setIn]
    rw [splitF_top hz hp hm.symm]
    exact vw_ret (r_then (e_ret (ret_of rfl rfl (by simp [RB]) rfl rfl)))
  rcases get_or s.data.toList k with ⟨b, hx, hlt⟩ | ⟨_, hge⟩
  case inr => rw [bs_len] at hge; omega
  have g := getD_of (d := 0) hx
  have c0 : (0:Int) < ((k + 1 : Nat) : Int) := by omega
  have c1 : (0:Int) ≤ (k:Int) := by omega
  have c2 : (k:Int) < (s.size : Int) := by omega
  have w1 : IntKind.wrap .i64 (((k + 1 : Nat) : Int) - 1) = (k : Int) := by rw [wrap_i64 (by omega) (by omega)]; omega
  rw [lastCut, g] at hm
  refine vw_go rfl ?_; simp only [c0, w1, c1, c2, Int.toNat_natCast, g, go_sem, setCells, setIn]
  refine vw_cond (t := !decide ((b.toNat : Int) = 47)) rfl (fun h => ?_) (fun h => ?_)
  · have h : ¬ (b.toNat : Int) = 47 := by simpa using h
    rw [if_neg (fun h' : b = 47 => h ((b_iff b 47 (by decide)).2 h'))] at hm
    refine vw_skip (n_then ?_)
    refine vw_block ?_
    refine vw_last rfl ?_; simp only [w1, go_sem, setCells, setIn]
    refine (n_block (n_then ?_))
    refine ⟨k, by omega, ⟨by omega, hm⟩, ?_⟩
    refine norm_to [] rfl ?_ ?_ <;> simp only [go_sem]
  · have h : (b.toNat : Int) = 47 := by simpa using h
    rw [if_pos (show b = 47 from (b_iff b 47 (by decide)).1 h)] at hm
    refine vw_exit (x_then (x_then (x_block (n_then ?_))))
    refine vw_seq ?_
    have c3 : (((k + 1 : Nat) : Int) = 0) = False := eq_false (by omega)
    have d1 : 0 ≤ k ∧ k ≤ s.size := by omega
    have d2 : k + 1 ≤ s.size ∧ s.size ≤ s.size := by omega
    have d3 : (0:Int) ≤ ((k + 1 : Nat) : Int) := by omega
    refine vw_go rfl ?_; simp only [c3, go_sem, setCells, setIn]
    refine vw_cond (t := false) rfl (fun h => ?_) (fun h => ?_)
    · cases h
    refine vw_skip (n_then ?_)
    refine vw_draw mixed rfl rfl ?_; simp only [w1, c1, d1, d2, d3, Int.toNat_natCast, go_sem, setCells, setIn]
    refine ⟨by unfold allOk; kernel_rfl, ?_⟩
    rw [splitF_cut hz hp hm.symm]
    exact vw_ret (e_ret (ret_of rfl rfl (by simp [RB]) rfl rfl))
theorem runs_55 (s : ByteArray) (hs : s.size ≤ 2 ^ 20) : Runs Tryz.prog 55 [.one (.v (.str s))] [.one (.v (.str (splitF s).1)), .one (.v (.str (splitF s).2.1)), .one (.v (.bool (splitF s).2.2))] [] := by
  refine runs_tab (tab := [(0, .c (.str s))]) (rts := []) (n := 25) (k := 1) Tryz.func55 rfl rfl (by simp) rfl (fun t => ?_) rfl ?_
  · rcases t with _ | t <;> rfl
  have hle := lastCut_le s.data.toList s.size
  refine vw_go rfl ?_; simp only [go_sem, setCells, setIn]
  refine vw_seq ?_
  by_cases hz : s = ⟨#[]⟩
  · have hz' : decide (s = ⟨#[]⟩) = true := by simp [hz]
    refine vw_go rfl ?_; simp only [hz', go_sem, setCells, setIn]
    refine vw_cond (t := true) rfl (fun h => ?_) (fun h => ?_)
    case refine_2 => cases h
    refine vw_go rfl ?_; simp only [go_sem, setCells, setIn]
    rw [splitF_nil hz]
    exact vw_ret (r_then (e_ret (ret_of rfl rfl (by simp [RB]) rfl rfl)))
  have hz' : decide (s = ⟨#[]⟩) = false := by simp [hz]
  refine vw_go rfl ?_; simp only [hz', go_sem, setCells, setIn]
  refine ⟨_, _, call_rd [0] Tryz.func67 (runs_67 s hs) rfl rfl rfl rfl rfl rfl rfl rfl rfl rfl rfl rfl rfl, ?_⟩
  cases hp : pathOk s
  · simp only [runH, runX, go_sem, setCells, setIn]
    refine vw_cond (t := true) rfl (fun h => ?_) (fun h => ?_)
    case refine_2 => cases h
    refine vw_go rfl ?_; simp only [go_sem, setCells, setIn]
    rw [splitF_bad hp]
    exact vw_ret (r_then (e_ret (ret_of rfl rfl (by simp [RB]) rfl rfl)))
  simp only [runH, runX, go_sem, setCells, setIn]
  refine vw_cond (t := false) rfl (fun h => ?_) (fun h => ?_)
  · cases h
  refine vw_skip (n_then ?_)
  refine vw_go rfl ?_; simp only [go_sem, setCells, setIn]
  refine ⟨_, _, call_rd [0, 0] Tryz.func86 (runs_86 s (by omega)) rfl rfl rfl rfl rfl rfl rfl rfl rfl rfl rfl rfl rfl, ?_⟩
  obtain ⟨k, hk⟩ : ∃ k, k = lastCut s.data.toList s.size := ⟨_, rfl⟩
  rw [← hk] at hle
  rw [← hk]
  simp only [runH, runX, go_sem, setCells, setIn]
  refine vw_seq ?_
  rcases k with _ | k
  · (refine vw_go rfl ?_; simp only [go_sem, setCells, setIn])
    refine vw_cond (t := true) rfl (fun h => ?_) (fun h => ?_)
    case refine_2 => cases h
    refine vw_go rfl ?_; simp only [go_sem, setCells, setIn]
    rw [splitF_top hz hp hk.symm]
    exact vw_ret (r_then (e_ret (ret_of rfl rfl (by simp [RB]) rfl rfl)))
  · have e0 : ((k + 1 : Nat) : Int) - 1 = (k : Int) := by omega
    have c1 : (0:Int) ≤ (k:Int) := by omega
    have c3 : ((k : Int) < 0) = False := eq_false (by omega)
    have w1 : IntKind.wrap .i64 ((k : Int) + 1) = ((k + 1 : Nat) : Int) := by rw [wrap_i64 (by omega) (by omega)]; rfl
    have d1 : 0 ≤ k ∧ k ≤ s.size := by omega
    have d2 : k + 1 ≤ s.size ∧ s.size ≤ s.size := by omega
    have d3 : (0:Int) ≤ ((k + 1 : Nat) : Int) := by omega
    refine vw_go rfl ?_; simp only [e0, c3, go_sem, setCells, setIn]
    refine vw_cond (t := false) rfl (fun h => ?_) (fun h => ?_)
    · cases h
    refine vw_skip (n_then ?_)
    refine vw_draw mixed rfl rfl ?_; simp only [w1, c1, d1, d2, d3, Int.toNat_natCast, go_sem, setCells, setIn]
    refine ⟨by unfold allOk; kernel_rfl, ?_⟩
    rw [splitF_cut hz hp hk.symm]
    exact vw_ret (e_ret (ret_of rfl rfl (by simp [RB]) rfl rfl))
end Go.Proofs.YtoenfbbadfcfpaaGreatDoor
namespace Go.Proofs.YtoenfbbadfcfpaaGreatDoor
open Go.VM
set_option maxRecDepth 100000
attribute [local congr] vw_congr runV_congr runH_congr runW_congr runX_congr stuckV_congr stuckX_congr
structure PutV where
  sector : Int
  data : ByteArray
  deriving DecidableEq
def putRow (x : PutV) : List T := [.int .i64 x.sector, .str x.data]
def PutV.ok (x : PutV) : Prop := x.data.size < 2 ^ 63
theorem putRow_r1 (x : PutV) : (putRow x).map T.toRO = putRow x := by simp [putRow]
theorem putRow_clean (l : List PutV) : cleanRs (l.map putRow) = true := clean_map (fun x => rfl) l
end Go.Proofs.YtoenfbbadfcfpaaGreatDoor
namespace Go.Proofs.YtoenfbbadfcfpaaGreatDoor
open Go.VM Go
set_option maxRecDepth 100000
attribute [local congr] vw_congr runV_congr runH_congr runW_congr runX_congr stuckV_congr stuckX_congr
def freeF (l : List ByteArray) : Int := idxOf (fun s => decide (s = ⟨#[]⟩)) (l.drop 1) 1
theorem runs_166 (l : List ByteArray) (hl : l.length = 12) : Runs Tryz.prog 166 [.one (.v (.list false 1 (l.map sRow)))] [.one (.v (.int .i64 (freeF l)))] [] := by
  refine runs_tab (tab := [(0, .c (.list false 1 (l.map sRow)))]) (rts := []) (n := 21) (k := 1) Tryz.func166 rfl rfl (by simp) rfl (fun t => ?_) rfl ?_
  · cases t <;> rfl
  have hi : (l.length : Int) = 12 := by omega
  unfold freeF
  refine vw_go rfl ?_; simp only [go_sem, setCells, setIn]
  refine vw_seq ?_
  refine vw_go rfl ?_; simp only [go_sem, setCells, setIn]
  refine vw_block ?_
  refine vw_loop_tab (α := Nat) (fun x => 12 - x) (fun x => ⟨tabE [(0, .c (.list false 1 (l.map sRow))), (3, .c (.int .i64 x))], tabS [], 1⟩)
    (fun x => 1 ≤ x ∧ x ≤ 12 ∧ idxOf (fun s => decide (s = ⟨#[]⟩)) (l.drop x) x = idxOf (fun s => decide (s = ⟨#[]⟩)) (l.drop 1) 1) (x := 1) ?round ?h0 ?hn
  case h0 => exact ⟨Nat.le_refl _, by decide, rfl⟩
  case hn =>
    refine norm_to [] rfl ?_ ?_ <;> simp only [go_sem]
    · rfl
  rintro i ⟨h1, h2, hg⟩
  refine vw_seq ?_
  by_cases hc : (i : Int) < l.length
  case neg =>
    rw [List.drop_eq_nil_of_le (by omega), idxOf] at hg
    rw [← hg]
    refine vw_go rfl ?_; simp only [hc, go_sem, setCells, setIn]
    refine vw_cond (t := false) rfl (fun h => nomatch h) (fun _ => ?_)
    refine vw_exit (x_then (x_then (x_block (n_then ?_))))
    refine vw_go rfl ?_; simp only [go_sem, setCells, setIn]
    exact vw_ret (e_ret (ret_of rfl rfl (by simp [RB]) rfl rfl))
  have hin : i < l.length := by omega
  obtain ⟨s, hs⟩ : ∃ s, l[i]? = some s := ⟨_, List.getElem?_eq_getElem hin⟩
  rw [drop_of hs, idxOf] at hg
  have d0 : (0:Int) ≤ (i : Int) := by omega
  have w3 : IntKind.wrap .i64 ((i:Int) + 1) = ((i + 1 : Nat) : Int) := by rw [wrap_i64 (by omega) (by omega)]; rfl
  have hc12 : (i : Int) < 12 := by omega
  refine vw_go rfl ?_; simp only [hi, hc12, go_sem, setCells, setIn]
  refine vw_cond (t := true) rfl (fun _ => ?_) (fun h => nomatch h)
  refine vw_skip (n_then ?_)
  refine vw_seq ?_
  refine vw_block ?_
  refine vw_go rfl ?_; simp only [d0, hc, hin, Int.toNat_natCast, getD_map_of hs, sRow, go_sem, setCells, setIn]
  by_cases hz : s = ⟨#[]⟩
  · rw [if_pos (by simp [hz])] at hg
    rw [← hg]
    refine vw_cond (t := true) (by simp [ev, tabE_cons, hz]) (fun _ => ?_) (fun h => nomatch h)
    refine vw_go rfl ?_; simp only [go_sem, setCells, setIn]
    exact vw_ret (r_block (r_then (r_then (r_block (r_then (e_ret (ret_of rfl rfl (by simp [RB]) rfl rfl)))))))
  rw [if_neg (by simp [hz])] at hg
  refine vw_cond (t := false) (by simp [ev, tabE_cons, hz]) (fun h => nomatch h) (fun _ => ?_)
  refine vw_skip (n_block (n_then ?_))
  refine vw_last rfl ?_; simp only [w3, go_sem, setCells, setIn]
  refine (n_then ?_)
  refine ⟨i + 1, by omega, ⟨by omega, by omega, hg⟩, ?_⟩
  refine norm_to [] rfl ?_ ?_ <;> simp only [go_sem]
theorem runs_145 (c : Int) : Runs Tryz.prog 145 [.one (.v (.int .i64 c))] [.one (.v (.int .i64 c)), .one (.v (.str ⟨#[]⟩)), .one (.v (.list true 2 []))] [] := by
  refine runs_tab (tab := [(0, .c (.int .i64 c))]) (rts := []) (n := 7) (k := 1) Tryz.func145 rfl rfl (by simp) rfl (fun t => ?_) rfl ?_
  · cases t <;> rfl
  refine vw_go rfl ?_; simp only [go_sem, setCells, setIn]
  refine vw_go rfl ?_; simp only [List.replicate_zero, List.flatten_nil, List.range_zero, go_sem, setCells, setIn]
  exact vw_ret (e_ret (ret_by rfl rfl (by simp [RB]) rfl (by simp only [takeCs, takeC, go_sem, setCells, setIn])))
theorem range2 : List.range 2 = [0, 1] := rfl
def sortF (a b : PutV) : List PutV := if b.sector < a.sector then [b, a] else [a, b]
theorem runs_167 (a b : PutV) : Runs Tryz.prog 167 [.agg [.v (.int .i64 a.sector), .v (.str a.data)], .agg [.v (.int .i64 b.sector), .v (.str b.data)]] [.one (.v (.list true 2 ((sortF a b).map putRow)))] [] := by
  refine runs_tab (tab := [(0, .agg [.c (.int .i64 a.sector), .c (.str a.data)]), (1, .agg [.c (.int .i64 b.sector), .c (.str b.data)])]) (rts := []) (n := 16) (k := 4) Tryz.func167 rfl rfl (by simp) rfl (fun t => ?_) rfl ?_
  · rcases t with _ | _ | t <;> rfl
  unfold sortF
  refine vw_go rfl ?_; simp only [go_sem, setCells, setIn]
  refine vw_seq ?_
  by_cases h : b.sector < a.sector
  · rw [if_pos h, show [b, a].map putRow = [[.int .i64 b.sector, .str b.data], [.int .i64 a.sector, .str a.data]] from rfl]
    refine vw_go rfl ?_; simp only [h, go_sem, setCells, setIn]
    refine vw_cond (t := true) rfl (fun _ => ?_) (fun h => nomatch h)
    refine vw_go rfl ?_; simp only [range1, List.replicate_succ, List.replicate_zero, List.flatten_cons, List.flatten_nil, List.range_zero, gt_iff_lt, range2, go_sem, setCells, setIn]
    exact vw_ret (r_then (e_ret (ret_by rfl rfl (by simp [RB]) rfl (by simp only [takeCs, takeC, go_sem, setCells, setIn]))))
  rw [if_neg h, show [a, b].map putRow = [[.int .i64 a.sector, .str a.data], [.int .i64 b.sector, .str b.data]] from rfl]
  refine vw_go rfl ?_; simp only [h, go_sem, setCells, setIn]
  refine vw_cond (t := false) rfl (fun h => nomatch h) (fun _ => ?_)
  refine vw_skip (n_then ?_)
  refine vw_go rfl ?_; simp only [range1, List.replicate_succ, List.replicate_zero, List.flatten_cons, List.flatten_nil, List.range_zero, gt_iff_lt, range2, go_sem, setCells, setIn]
  exact vw_ret (e_ret (ret_by rfl rfl (by simp [RB]) rfl (by simp only [takeCs, takeC, go_sem, setCells, setIn])))
theorem runs_150 (k : Int) (n : NodeV) (hs : n.small) (hs2 : n.names.length ≤ 2 ^ 20) (hs3 : n.data.size < 2 ^ 59) : Runs Tryz.prog 150 [.one (.v (.int .i64 k)), .agg [.v (.bool n.dir), .v (.list false 1 (n.names.map sRow)), .v (.list false 1 (n.kids.map nRow)), .v (.str n.data)]] [.agg [.v (.int .i64 k), .v (.str (nodeText n))]] [] := by
  refine runs_tab (tab := [(0, .c (.int .i64 k)), (1, .agg [.c (.bool n.dir), .c (.list false 1 (n.names.map sRow)), .c (.list false 1 (n.kids.map nRow)), .c (.str n.data)])]) (rts := []) (n := 9) (k := 5) Tryz.func150 rfl rfl (by simp) rfl (fun t => ?_) rfl ?_
  · rcases t with _ | _ | t <;> rfl
  have rT := runs_107 n hs hs2 hs3
  refine vw_go rfl ?_; simp only [go_sem, setCells, setIn]
  refine vw_go rfl ?_; simp only [go_sem, setCells, setIn]
  refine ⟨_, _, call_rx [0] Tryz.func107 (rT) rfl rfl rfl rfl rfl rfl rfl (by simp [lendAll, lendC, seek, fresh, nav, rcells, RT.cells, VV.cells, tabE_cons, tabS_cons, ev, take_map_len, sRow_r1, sRow_comp, sRow_clean, nRow_r1, nRow_comp, nRow_clean]) rfl (by simp [rcells, RT.cells, CT.clean, T.clean, sRow_r1, sRow_comp, sRow_clean, nRow_r1, nRow_comp, nRow_clean]) rfl rfl, ?_⟩
  simp only [runH, runX, go_sem, setCells, setIn]
  exact vw_ret (e_ret (ret_by rfl rfl (by simp [RB]) rfl (by simp only [takeCs, takeC, go_sem, setCells, setIn])))
/-! ### the folder of a path -/
def kn (l : List ByteArray) (k : Int) : NodeV := (nodeRead (l.getD k.toNat ⟨#[]⟩)).1
def folderF (l : List ByteArray) (p : ByteArray) : Int × NodeV × ByteArray × Int :=
  if walkG l (namesZ (splitF p).1) 0 < 0 then (0, nodeZ, ⟨#[]⟩, 2)
  else if (kn l (walkG l (namesZ (splitF p).1) 0)).dir = true then (walkG l (namesZ (splitF p).1) 0, kn l (walkG l (namesZ (splitF p).1) 0), (splitF p).2.1, 0)
  else (0, nodeZ, ⟨#[]⟩, 4)
theorem walkG_in (l : List ByteArray) : ∀ (st : List ByteArray) (k : Int), 0 ≤ k → k ≤ 11 → walkG l st k = -1 ∨ (0 ≤ walkG l st k ∧ walkG l st k ≤ 11)
  | [], k, h0, h1 => .inr ⟨h0, h1⟩
  | s :: st, k, h0, h1 => by
    unfold walkG
    split
    · exact .inl rfl
    · rename_i h
      rcases kidF_in (nodeRead (l.getD k.toNat ⟨#[]⟩)).1 s with h2 | h2
      · rw [h2] at h; exact absurd (by decide) h
      · have := nodeRead_kids _ _ h2
        exact walkG_in l st _ (by omega) (by omega)
theorem splitF_size (p : ByteArray) : (splitF p).1.size ≤ p.size ∧ (splitF p).2.1.size ≤ p.size := by
  unfold splitF
  split
  · exact ⟨Nat.zero_le _, Nat.zero_le _⟩
  · split
    · exact ⟨Nat.zero_le _, Nat.le_refl _⟩
    · simp only [ByteArray.size_extract]; omega
theorem nodeRead_small (s : ByteArray) : (nodeRead s).1.names.length ≤ 11 ∧ (nodeRead s).1.kids.length ≤ 11 ∧ (∀ x ∈ (nodeRead s).1.names, x.size ≤ 6) ∧ (nodeRead s).1.data.size ≤ 60 := by
  by_cases h : (nodeRead s).2 = true
  · have hO := nodeRead_ok h
    have hl := nodeRead_len s
    refine ⟨by omega, by omega, ?_, ?_⟩
    · intro y hy
      rcases hdd : (nodeRead s).1.dir with _ | _
      · obtain ⟨h1, _⟩ := nodeOk_file hdd hO
        rw [List.eq_nil_of_length_eq_zero h1] at hy; cases hy
      · obtain ⟨_, _, h3⟩ := nodeOk_dir hdd hO
        obtain ⟨i, hi, rfl⟩ := List.getElem_of_mem hy
        have := nodeAt_out (h3 i hi)
        rw [List.getD_eq_getElem?_getD, List.getElem?_eq_getElem hi] at this
        simpa using this.1
    · rcases hdd : (nodeRead s).1.dir with _ | _
      · exact (nodeOk_file hdd hO).2.2
      · rw [(nodeOk_dir hdd hO).2.1]; decide
  · have : (nodeRead s).1 = nodeZ := by
      unfold nodeRead at h ⊢
      split
      · rfl
      · split
        · rename_i h0 h1; rw [if_neg h0, if_pos h1] at h; exact absurd rfl h
        · rfl
    rw [this]; exact ⟨Nat.zero_le _, Nat.zero_le _, fun x hx => (nomatch hx), Nat.zero_le _⟩
set_option maxHeartbeats 1000000 in
theorem runs_165 (l : List ByteArray) (hl : l.length = 12) (hsz : ∀ s ∈ l, s.size ≤ 2 ^ 20) (p : ByteArray) (hp : p.size ≤ 2 ^ 20) (R : Int × NodeV × ByteArray × Int) (hR : R = folderF l p) :
    Runs Tryz.prog 165 [.one (.v (.list false 1 (l.map sRow))), .one (.v (.str p))] [.one (.v (.int .i64 R.1)), .agg [.v (.bool R.2.1.dir), .v (.list true 1 (R.2.1.names.map sRow)), .v (.list true 1 (R.2.1.kids.map nRow)), .v (.str R.2.1.data)], .one (.v (.str R.2.2.1)), .one (.v (.int .i64 R.2.2.2))] [] := by
  refine runs_tab (tab := [(0, .c (.list false 1 (l.map sRow))), (1, .c (.str p))]) (rts := []) (n := 41) (k := 2) Tryz.func165 rfl rfl (by simp) rfl (fun t => ?_) rfl ?_
  · rcases t with _ | _ | t <;> rfl
  unfold folderF at hR
  have rS := runs_57 p hp
  have hs := splitF_size p
  generalize splitF p = S at rS hs hR
  obtain ⟨u, nm, b⟩ := S
  simp only at rS hs hR
  have rW := runs_147 l hl hsz u (by omega)
  have hw := walkG_in l (namesZ u) 0 (by decide) (by decide)
  generalize walkG l (namesZ u) 0 = k at rW hw hR
  refine vw_go rfl ?_; simp only [go_sem, setCells, setIn]
  refine vw_go rfl ?_; simp only [go_sem, setCells, setIn]
  refine ⟨_, _, call_rd [0] Tryz.func57 (rS) rfl rfl rfl rfl rfl rfl rfl rfl rfl rfl rfl rfl rfl, ?_⟩
  simp only [runH, runX, go_sem, setCells, setIn]
  refine vw_go rfl ?_; simp only [go_sem, setCells, setIn]
  refine ⟨_, _, call_rx [0, 0] Tryz.func147 (rW) rfl rfl rfl rfl rfl rfl rfl (by simp [lendAll, lendC, seek, fresh, nav, rcells, RT.cells, VV.cells, tabE_cons, tabS_cons, ev, take_map_len, sRow_r1, sRow_comp, sRow_clean, nRow_r1, nRow_comp, nRow_clean]) rfl (by simp [rcells, RT.cells, CT.clean, T.clean, sRow_r1, sRow_comp, sRow_clean, nRow_r1, nRow_comp, nRow_clean]) rfl rfl, ?_⟩
  simp only [runH, runX, go_sem, setCells, setIn]
  refine vw_seq ?_
  rcases hw with rfl | ⟨hw1, hw2⟩
  · rw [if_pos (by decide)] at hR
    subst hR
    refine vw_go rfl ?_; simp only [go_sem, setCells, setIn]
    refine vw_cond (t := true) rfl (fun _ => ?_) (fun h => nomatch h)
    refine vw_go rfl ?_; simp only [go_sem, setCells, setIn]
    unfold nodeZ
    exact vw_ret (r_then (e_ret (ret_by rfl rfl (by simp [RB]) rfl (by simp only [takeCs, takeC, go_sem, setCells, setIn]))))
  have g0 : ¬ k < 0 := by omega
  obtain ⟨k, rfl⟩ : ∃ m : Nat, k = m := ⟨k.toNat, by omega⟩
  rw [if_neg g0, kn, Int.toNat_natCast] at hR
  obtain ⟨t, ht⟩ : ∃ t, l[k]? = some t := ⟨_, List.getElem?_eq_getElem (by omega)⟩
  rw [getD_of ht] at hR
  have rR := runs_81 t (hsz t (List.mem_of_getElem? ht)) _ rfl
  have hsm := nodeRead_small t
  generalize nodeRead t = r at rR hsm hR
  obtain ⟨n, ok⟩ := r
  simp only at rR hsm hR
  have k0 : (0:Int) ≤ (k : Int) := by omega
  have k1 : (k : Int) < l.length := by omega
  have k2 : k < l.length := by omega
  have bn : List.take n.names.length (n.names.map sRow) = n.names.map sRow := List.take_of_length_le (by simp)
  have bk : List.take n.kids.length (n.kids.map nRow) = n.kids.map nRow := List.take_of_length_le (by simp)
  refine vw_go rfl ?_; simp only [g0, go_sem, setCells, setIn]
  refine vw_cond (t := false) rfl (fun h => nomatch h) (fun _ => ?_)
  refine vw_skip (n_then ?_)
  refine vw_go rfl ?_; simp only [k0, k1, k2, Int.toNat_natCast, getD_map_of ht, sRow, go_sem, setCells, setIn]
  refine ⟨_, _, call_rx [0] Tryz.func81 (rR) rfl rfl rfl rfl rfl rfl rfl (by simp [lendAll, lendC, seek, fresh, nav, rcells, RT.cells, VV.cells, tabE_cons, tabS_cons, ev, take_map_len, sRow_r1, sRow_comp, sRow_clean, nRow_r1, nRow_comp, nRow_clean]) rfl (by simp [rcells, RT.cells, CT.clean, T.clean, sRow_r1, sRow_comp, sRow_clean, nRow_r1, nRow_comp, nRow_clean]) rfl rfl, ?_⟩
  simp only [runH, runX, bn, bk, go_sem, setCells, setIn]
  refine vw_seq ?_
  refine vw_go rfl ?_; simp only [go_sem, setCells, setIn]
  cases hd : n.dir
  · rw [hd, if_neg (by decide)] at hR
    subst hR
    refine vw_cond (t := true) rfl (fun _ => ?_) (fun h => nomatch h)
    refine vw_go rfl ?_; simp only [go_sem, setCells, setIn]
    unfold nodeZ
    exact vw_ret (r_then (e_ret (ret_by rfl rfl (by simp [RB]) rfl (by simp only [takeCs, takeC, go_sem, setCells, setIn]))))
  rw [hd, if_pos rfl] at hR
  subst hR
  refine vw_cond (t := false) rfl (fun h => nomatch h) (fun _ => ?_)
  refine vw_skip (n_then ?_)
  refine vw_draw mixed rfl rfl ?_; simp only [bn, bk, List.drop_length, go_sem, setCells, setIn]
  refine ⟨by unfold allOk; kernel_rfl, ?_⟩
  simp only [hd]
  exact vw_ret (e_ret (ret_by rfl rfl (by simp [RB]) rfl (by simp only [takeCs, takeC, go_sem, setCells, setIn])))
end Go.Proofs.YtoenfbbadfcfpaaGreatDoor
