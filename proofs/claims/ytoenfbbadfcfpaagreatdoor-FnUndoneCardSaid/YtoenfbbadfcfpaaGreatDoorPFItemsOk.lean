/- Split of both, and its law. Paths, the plain law: a path is its names with a byte 47 between; what is split is met one name later. ItemsOk of both, and its law. -/
import Derived.Test.YtoenfbbadfcfpaaGreatDoorPFUnder
import Derived.Test.YtoenfbbadfcfpaaGreatDoorPFBase
namespace Go.Proofs.YtoenfbbadfcfpaaGreatDoor
open Go.VM
set_option maxRecDepth 100000
set_option linter.unusedSimpArgs false
set_option linter.unusedVariables false
attribute [local congr] vw_congr runV_congr runH_congr runW_congr runX_congr stuckV_congr stuckX_congr

/-- Behind the last '/' of so many bytes; 0 where none is. -/
def lastCut (l : List UInt8) : Nat → Nat
  | 0 => 0
  | n + 1 => if l.getD n 0 = 47 then n + 1 else lastCut l n
theorem lastCut_le (l : List UInt8) : ∀ n, lastCut l n ≤ n
  | 0 => Nat.le_refl _
  | n + 1 => by
    rw [lastCut]; split
    · exact Nat.le_refl _
    · have := lastCut_le l n; omega
def splitF (s : ByteArray) : ByteArray × ByteArray × Bool :=
  if s = ⟨#[]⟩ ∨ pathOk s = false then (⟨#[]⟩, ⟨#[]⟩, false)
  else if lastCut s.data.toList s.size = 0 then (⟨#[]⟩, s, true)
  else (s.extract 0 (lastCut s.data.toList s.size - 1), s.extract (lastCut s.data.toList s.size) s.size, true)

theorem runs_109 (s : ByteArray) (hs : s.size < 2 ^ 62) : Runs Tryz.prog 109 [.one (.v (.str s)), .one (.v (.int .u8 47))] [.one (.v (.int .i64 ((lastCut s.data.toList s.size : Nat) - 1)))] [] := by
  refine runs_tab (tab := [(0, .c (.str s)), (1, .c (.int .u8 47))]) (rts := []) (n := 19) (k := 2) Tryz.func109 rfl rfl (by simp) rfl (fun t => ?_) rfl ?_
  · rcases t with _ | _ | t <;> rfl
  have w0 : IntKind.wrap .i64 ((s.size : Int) - 1) = (s.size : Int) - 1 := wrap_i64 (by omega) (by omega)
  (refine vw_go rfl ?_; simp only [go_sem, setCells, setIn])
  refine vw_seq ?_
  (refine vw_go rfl ?_; simp only [w0, go_sem, setCells, setIn])
  refine vw_block ?_
  refine vw_loop_tab (α := Nat) (fun x => x) (fun x => ⟨tabE [(0, .c (.str s)), (1, .c (.int .u8 47)), (5, .c (.int .i64 ((x : Int) - 1)))], tabS [], 2⟩)
    (fun x => x ≤ s.size ∧ lastCut s.data.toList x = lastCut s.data.toList s.size) (x := s.size) ?round ?h0 ?hn
  case h0 => exact ⟨Nat.le_refl _, rfl⟩
  case hn => (refine norm_to [] rfl ?_ ?_ <;> simp only [go_sem])
  rintro k ⟨hk, hm⟩
  refine vw_seq ?_
  rcases k with _ | k
  · (refine vw_go rfl ?_; simp only [go_sem, setCells, setIn])
    refine vw_cond (t := false) (by simp [ev, tabE_cons]) (fun h => ?_) (fun h => ?_)
    · cases h
    refine vw_exit (x_then (x_then (x_block (n_then ?_))))
    (refine vw_go rfl ?_; simp only [go_sem, setCells, setIn])
    rw [← hm]
    exact vw_ret (e_ret (ret_of rfl rfl (by simp [RB]) rfl rfl))
  rcases get_or s.data.toList k with ⟨b, hx, hlt⟩ | ⟨_, hge⟩
  case inr => rw [bs_len] at hge; omega
  have g := getD_of (d := 0) hx
  have e0 : ((k + 1 : Nat) : Int) - 1 = (k : Int) := by omega
  have c1 : (0:Int) ≤ (k:Int) := by omega
  have c2 : (k:Int) < (s.size : Int) := by omega
  rw [lastCut, g] at hm
  (refine vw_go rfl ?_; simp only [e0, c1, go_sem, setCells, setIn])
  refine vw_cond (t := true) (by simp [ev, tabE_cons]) (fun h => ?_) (fun h => ?_)
  case refine_2 => cases h
  refine vw_skip (n_then ?_)
  refine vw_seq ?_
  refine vw_block ?_
  (refine vw_go rfl ?_; simp only [e0, c1, c2, Int.toNat_natCast, g, go_sem, setCells, setIn])
  refine vw_cond (t := decide ((b.toNat : Int) = 47)) rfl (fun h => ?_) (fun h => ?_)
  · simp only [decide_eq_true_eq] at h
    rw [if_pos (show b = 47 from (b_iff b 47 (by decide)).1 h)] at hm
    (refine vw_go rfl ?_; simp only [go_sem, setCells, setIn])
    rw [← hm, e0]
    exact vw_ret (r_block (r_then (r_then (r_block (r_then (e_ret (ret_of rfl rfl (by simp [RB]) rfl rfl)))))))
  · simp only [decide_eq_false_iff_not] at h
    rw [if_neg (fun h' : b = 47 => h ((b_iff b 47 (by decide)).2 h'))] at hm
    refine vw_skip (n_block (n_then ?_))
    have w2 : IntKind.wrap .i64 ((k:Int) - 1) = (k : Int) - 1 := wrap_i64 (by omega) (by omega)
    (refine vw_last rfl ?_; simp only [w2, go_sem, setCells, setIn])
    refine (n_then ?_)
    refine ⟨k, by omega, ⟨by omega, hm⟩, ?_⟩
    (refine norm_to [] rfl ?_ ?_ <;> simp only [go_sem])

theorem runs_86 (s : ByteArray) (hs : s.size < 2 ^ 62) : Runs Tryz.prog 86 [.one (.v (.str s)), .one (.v (.int .u8 47))] [.one (.v (.int .i64 ((lastCut s.data.toList s.size : Nat) - 1)))] [] := by
  refine runs_tab (tab := [(0, .c (.str s)), (1, .c (.int .u8 47))]) (rts := []) (n := 8) (k := 2) Tryz.func86 rfl rfl (by simp) rfl (fun t => ?_) rfl ?_
  · rcases t with _ | _ | t <;> rfl
  (refine vw_go rfl ?_; simp only [go_sem, setCells, setIn])
  (refine vw_go rfl ?_; simp only [go_sem, setCells, setIn])
  (refine ⟨_, _, call_rd [0, 0] Tryz.func109 (runs_109 s hs) rfl rfl rfl rfl rfl rfl rfl rfl rfl rfl rfl rfl rfl, ?_⟩)
  simp only [runH, runX, go_sem, setCells, setIn]
  exact vw_ret (e_ret (ret_of rfl rfl (by simp [RB]) rfl rfl))

theorem splitF_nil {s : ByteArray} (h : s = ⟨#[]⟩) : splitF s = (⟨#[]⟩, ⟨#[]⟩, false) := by rw [splitF, if_pos (.inl h)]
theorem splitF_bad {s : ByteArray} (h : pathOk s = false) : splitF s = (⟨#[]⟩, ⟨#[]⟩, false) := by rw [splitF, if_pos (.inr h)]
theorem splitF_top {s : ByteArray} (h1 : ¬ s = ⟨#[]⟩) (h2 : pathOk s = true) (h3 : lastCut s.data.toList s.size = 0) : splitF s = (⟨#[]⟩, s, true) := by
  rw [splitF, if_neg (by simp [h1, h2]), if_pos h3]
theorem splitF_cut {s : ByteArray} {k : Nat} (h1 : ¬ s = ⟨#[]⟩) (h2 : pathOk s = true) (h3 : lastCut s.data.toList s.size = k + 1) : splitF s = (s.extract 0 k, s.extract (k + 1) s.size, true) := by
  rw [splitF, if_neg (by simp [h1, h2]), if_neg (by omega), h3]; rfl

theorem runs_57 (s : ByteArray) (hs : s.size ≤ 2 ^ 20) : Runs Tryz.prog 57 [.one (.v (.str s))] [.one (.v (.str (splitF s).1)), .one (.v (.str (splitF s).2.1)), .one (.v (.bool (splitF s).2.2))] [] := by
  refine runs_tab (tab := [(0, .c (.str s))]) (rts := []) (n := 36) (k := 1) Tryz.func57 rfl rfl (by simp) rfl (fun t => ?_) rfl ?_
  · rcases t with _ | t <;> rfl
  (refine vw_go rfl ?_; simp only [go_sem, setCells, setIn])
  refine vw_seq ?_
  by_cases hz : s = ⟨#[]⟩
  · have hz' : decide (s = ⟨#[]⟩) = true := by simp [hz]
    (refine vw_go rfl ?_; simp only [hz', go_sem, setCells, setIn])
    refine vw_cond (t := true) rfl (fun h => ?_) (fun h => ?_)
    case refine_2 => cases h
    (refine vw_go rfl ?_; simp only [go_sem, setCells, setIn])
    rw [splitF_nil hz]
    exact vw_ret (r_then (e_ret (ret_of rfl rfl (by simp [RB]) rfl rfl)))
  have hz' : decide (s = ⟨#[]⟩) = false := by simp [hz]
  (refine vw_go rfl ?_; simp only [hz', go_sem, setCells, setIn])
  (refine ⟨_, _, call_rd [0] Tryz.func62 (runs_62 s hs) rfl rfl rfl rfl rfl rfl rfl rfl rfl rfl rfl rfl rfl, ?_⟩)
  cases hp : pathOk s
  · simp only [runH, runX, go_sem, setCells, setIn]
    refine vw_cond (t := true) rfl (fun h => ?_) (fun h => ?_)
    case refine_2 => cases h
    (refine vw_go rfl ?_; simp only [go_sem, setCells, setIn])
    rw [splitF_bad hp]
    exact vw_ret (r_then (e_ret (ret_of rfl rfl (by simp [RB]) rfl rfl)))
  simp only [runH, runX, go_sem, setCells, setIn]
  refine vw_cond (t := false) rfl (fun h => ?_) (fun h => ?_)
  · cases h
  refine vw_skip (n_then ?_)
  (refine vw_go rfl ?_; simp only [go_sem, setCells, setIn])
  refine vw_seq ?_
  refine vw_block ?_
  refine vw_loop_tab (α := Nat) (fun x => x) (fun x => ⟨tabE [(0, .c (.str s)), (5, .c (.int .i64 x))], tabS [], 1⟩)
    (fun x => x ≤ s.size ∧ lastCut s.data.toList x = lastCut s.data.toList s.size) (x := s.size) ?round ?h0 ?hn
  case h0 => exact ⟨Nat.le_refl _, rfl⟩
  case hn => (refine norm_to [] rfl ?_ ?_ <;> simp only [go_sem])
  rintro k ⟨hk, hm⟩
  refine vw_seq ?_
  rcases k with _ | k
  · (refine vw_go rfl ?_; simp only [Int.natCast_zero, Int.lt_irrefl, go_sem, setCells, setIn])
    refine vw_cond (t := false) (by simp [ev, tabE_cons]) (fun h => ?_) (fun h => ?_)
    · cases h
    refine vw_exit (x_then (x_then (x_block (n_then ?_))))
    refine vw_seq ?_
    (refine vw_go rfl ?_; simp only [go_sem, setCells, setIn])
    refine vw_cond (t := true) rfl (fun h => ?_) (fun h => ?_)
    case refine_2 => cases h
    (refine vw_go rfl ?_; simp only [go_sem, setCells, setIn])
    rw [splitF_top hz hp hm.symm]
    exact vw_ret (r_then (e_ret (ret_of rfl rfl (by simp [RB]) rfl rfl)))
  rcases get_or s.data.toList k with ⟨b, hx, hlt⟩ | ⟨_, hge⟩
  case inr => rw [bs_len] at hge; omega
  have g := getD_of (d := 0) hx
  have c0 : (0:Int) < ((k + 1 : Nat) : Int) := by omega
  have c1 : (0:Int) ≤ (k:Int) := by omega
  have c2 : (k:Int) < (s.size : Int) := by omega
  have w1 : IntKind.wrap .i64 (((k + 1 : Nat) : Int) - 1) = (k : Int) := by rw [wrap_i64 (by omega) (by omega)]; omega
  rw [lastCut, g] at hm
  (refine vw_go rfl ?_; simp only [c0, w1, c1, c2, Int.toNat_natCast, g, go_sem, setCells, setIn])
  refine vw_cond (t := !decide ((b.toNat : Int) = 47)) rfl (fun h => ?_) (fun h => ?_)
  · have h : ¬ (b.toNat : Int) = 47 := by simpa using h
    rw [if_neg (fun h' : b = 47 => h ((b_iff b 47 (by decide)).2 h'))] at hm
    refine vw_skip (n_then ?_)
    refine vw_block ?_
    (refine vw_last rfl ?_; simp only [w1, go_sem, setCells, setIn])
    refine (n_block (n_then ?_))
    refine ⟨k, by omega, ⟨by omega, hm⟩, ?_⟩
    (refine norm_to [] rfl ?_ ?_ <;> simp only [go_sem])
  · have h : (b.toNat : Int) = 47 := by simpa using h
    rw [if_pos (show b = 47 from (b_iff b 47 (by decide)).1 h)] at hm
    refine vw_exit (x_then (x_then (x_block (n_then ?_))))
    refine vw_seq ?_
    have c3 : (((k + 1 : Nat) : Int) = 0) = False := eq_false (by omega)
    have d1 : 0 ≤ k ∧ k ≤ s.size := by omega
    have d2 : k + 1 ≤ s.size ∧ s.size ≤ s.size := by omega
    have d3 : (0:Int) ≤ ((k + 1 : Nat) : Int) := by omega
    (refine vw_go rfl ?_; simp only [c3, go_sem, setCells, setIn])
    refine vw_cond (t := false) rfl (fun h => ?_) (fun h => ?_)
    · cases h
    refine vw_skip (n_then ?_)
    (refine vw_draw mixed rfl rfl ?_; simp only [w1, c1, d1, d2, d3, Int.toNat_natCast, go_sem, setCells, setIn])
    refine ⟨by unfold allOk; kernel_rfl, ?_⟩
    rw [splitF_cut hz hp hm.symm]
    exact vw_ret (e_ret (ret_of rfl rfl (by simp [RB]) rfl rfl))

theorem runs_55 (s : ByteArray) (hs : s.size ≤ 2 ^ 20) : Runs Tryz.prog 55 [.one (.v (.str s))] [.one (.v (.str (splitF s).1)), .one (.v (.str (splitF s).2.1)), .one (.v (.bool (splitF s).2.2))] [] := by
  refine runs_tab (tab := [(0, .c (.str s))]) (rts := []) (n := 25) (k := 1) Tryz.func55 rfl rfl (by simp) rfl (fun t => ?_) rfl ?_
  · rcases t with _ | t <;> rfl
  have hle := lastCut_le s.data.toList s.size
  (refine vw_go rfl ?_; simp only [go_sem, setCells, setIn])
  refine vw_seq ?_
  by_cases hz : s = ⟨#[]⟩
  · have hz' : decide (s = ⟨#[]⟩) = true := by simp [hz]
    (refine vw_go rfl ?_; simp only [hz', go_sem, setCells, setIn])
    refine vw_cond (t := true) rfl (fun h => ?_) (fun h => ?_)
    case refine_2 => cases h
    (refine vw_go rfl ?_; simp only [go_sem, setCells, setIn])
    rw [splitF_nil hz]
    exact vw_ret (r_then (e_ret (ret_of rfl rfl (by simp [RB]) rfl rfl)))
  have hz' : decide (s = ⟨#[]⟩) = false := by simp [hz]
  (refine vw_go rfl ?_; simp only [hz', go_sem, setCells, setIn])
  (refine ⟨_, _, call_rd [0] Tryz.func67 (runs_67 s hs) rfl rfl rfl rfl rfl rfl rfl rfl rfl rfl rfl rfl rfl, ?_⟩)
  cases hp : pathOk s
  · simp only [runH, runX, go_sem, setCells, setIn]
    refine vw_cond (t := true) rfl (fun h => ?_) (fun h => ?_)
    case refine_2 => cases h
    (refine vw_go rfl ?_; simp only [go_sem, setCells, setIn])
    rw [splitF_bad hp]
    exact vw_ret (r_then (e_ret (ret_of rfl rfl (by simp [RB]) rfl rfl)))
  simp only [runH, runX, go_sem, setCells, setIn]
  refine vw_cond (t := false) rfl (fun h => ?_) (fun h => ?_)
  · cases h
  refine vw_skip (n_then ?_)
  (refine vw_go rfl ?_; simp only [go_sem, setCells, setIn])
  (refine ⟨_, _, call_rd [0, 0] Tryz.func86 (runs_86 s (by omega)) rfl rfl rfl rfl rfl rfl rfl rfl rfl rfl rfl rfl rfl, ?_⟩)
  obtain ⟨k, hk⟩ : ∃ k, k = lastCut s.data.toList s.size := ⟨_, rfl⟩
  rw [← hk] at hle
  rw [← hk]
  simp only [runH, runX, go_sem, setCells, setIn]
  refine vw_seq ?_
  rcases k with _ | k
  · (refine vw_go rfl ?_; simp only [go_sem, setCells, setIn])
    refine vw_cond (t := true) rfl (fun h => ?_) (fun h => ?_)
    case refine_2 => cases h
    (refine vw_go rfl ?_; simp only [go_sem, setCells, setIn])
    rw [splitF_top hz hp hk.symm]
    exact vw_ret (r_then (e_ret (ret_of rfl rfl (by simp [RB]) rfl rfl)))
  · have e0 : ((k + 1 : Nat) : Int) - 1 = (k : Int) := by omega
    have c1 : (0:Int) ≤ (k:Int) := by omega
    have c3 : ((k : Int) < 0) = False := eq_false (by omega)
    have w1 : IntKind.wrap .i64 ((k : Int) + 1) = ((k + 1 : Nat) : Int) := by rw [wrap_i64 (by omega) (by omega)]; rfl
    have d1 : 0 ≤ k ∧ k ≤ s.size := by omega
    have d2 : k + 1 ≤ s.size ∧ s.size ≤ s.size := by omega
    have d3 : (0:Int) ≤ ((k + 1 : Nat) : Int) := by omega
    (refine vw_go rfl ?_; simp only [e0, c3, go_sem, setCells, setIn])
    refine vw_cond (t := false) rfl (fun h => ?_) (fun h => ?_)
    · cases h
    refine vw_skip (n_then ?_)
    (refine vw_draw mixed rfl rfl ?_; simp only [w1, c1, d1, d2, d3, Int.toNat_natCast, go_sem, setCells, setIn])
    refine ⟨by unfold allOk; kernel_rfl, ?_⟩
    rw [splitF_cut hz hp hk.symm]
    exact vw_ret (e_ret (ret_of rfl rfl (by simp [RB]) rfl rfl))

end Go.Proofs.YtoenfbbadfcfpaaGreatDoor
namespace Go.Proofs.YtoenfbbadfcfpaaGreatDoor
open Go.VM Go
set_option linter.unusedSimpArgs false
set_option linter.unusedVariables false
/-- What is between i and j of a text, as bytes. -/
theorem cut_bytes (s : ByteArray) (i j : Nat) : (s.extract i j).data.toList = (s.data.toList.take j).drop i := by
  rw [ByteArray.data_extract, Array.toList_extract, List.extract_eq_take_drop, List.drop_take]
theorem cut_join (s : ByteArray) {fr i : Nat} (h : fr ≤ i) (hi : i < s.size) (h47 : s.data.toList.getD i 0 = 47) : s.extract fr i ++ ⟨#[47]⟩ ++ s.extract (i + 1) s.size = s.extract fr s.size := by
  refine ba_eq ?_
  rw [add_bytes, add_bytes, cut_bytes, cut_bytes, cut_bytes]
  have hl : s.data.toList.length = s.size := bs_len s
  have e : s.data.toList.take s.size = s.data.toList := List.take_of_length_le (by omega)
  rw [e]
  obtain ⟨b, hb⟩ : ∃ b, s.data.toList[i]? = some b := ⟨_, List.getElem?_eq_getElem (by omega)⟩
  rw [getD_of hb] at h47
  subst h47
  have e2 : s.data.toList.drop fr = (s.data.toList.drop fr).take (i - fr) ++ (s.data.toList.drop fr).drop (i - fr) := (List.take_append_drop _ _).symm
  rw [e2, List.drop_drop, show fr + (i - fr) = i from by omega, drop_of hb, List.drop_take, List.append_assoc]
  rfl
def jn : ByteArray → List ByteArray → ByteArray
  | acc, [] => acc
  | acc, x :: xs => jn (acc ++ ⟨#[47]⟩ ++ x) xs
def joinF : List ByteArray → ByteArray
  | [] => ⟨#[]⟩
  | x :: xs => jn x xs
theorem app_assoc (a b c : ByteArray) : a ++ b ++ c = a ++ (b ++ c) := ba_eq (by rw [add_bytes, add_bytes, add_bytes, add_bytes, List.append_assoc])
theorem app_nil (a : ByteArray) : a ++ ⟨#[]⟩ = a := ba_eq (by rw [add_bytes]; exact List.append_nil _)
theorem nil_app (a : ByteArray) : ⟨#[]⟩ ++ a = a := ba_eq (by rw [add_bytes]; rfl)
theorem pcs_join (s : ByteArray) : ∀ (n fr i : Nat) (acc : ByteArray), fr ≤ i → i + n = s.size → ∃ p ps, pcs 47 s n fr i = p :: ps ∧ jn (acc ++ p) ps = acc ++ s.extract fr s.size
  | 0, fr, i, acc, h, hi => by
    obtain rfl : i = s.size := by omega
    exact ⟨_, _, rfl, rfl⟩
  | n + 1, fr, i, acc, h, hi => by
    rw [pcs]
    split
    · rename_i h47
      obtain ⟨p, ps, e, ej⟩ := pcs_join s n (i + 1) (i + 1) (acc ++ s.extract fr i ++ ⟨#[47]⟩) (Nat.le_refl _) (by omega)
      refine ⟨_, _, rfl, ?_⟩
      rw [e, jn, ej, app_assoc (acc ++ s.extract fr i), app_assoc acc, ← app_assoc (s.extract fr i), cut_join s h (by omega) h47]
    · exact pcs_join s n fr (i + 1) acc (by omega) (by omega)
theorem names_join (s : ByteArray) : joinF (names s) = s := by
  obtain ⟨p, ps, e, ej⟩ := pcs_join s s.size 0 0 ⟨#[]⟩ (Nat.le_refl _) (by omega)
  unfold names
  rw [e, joinF]
  rw [nil_app, nil_app] at ej
  rw [ej]
  refine ba_eq ?_
  rw [cut_bytes, List.drop_zero, List.take_of_length_le (by rw [bs_len]; omega)]
/-! ### what is split -/
theorem pcs_none (s : ByteArray) : ∀ (n fr i : Nat), i + n = s.size → (∀ j, i ≤ j → j < s.size → ¬ s.data.toList.getD j 0 = 47) → pcs 47 s n fr i = [s.extract fr s.size]
  | 0, fr, i, hi, _ => by obtain rfl : i = s.size := by omega
                          rfl
  | n + 1, fr, i, hi, h => by
    rw [pcs, if_neg (h i (Nat.le_refl _) (by omega))]
    exact pcs_none s n fr (i + 1) (by omega) (fun j h1 h2 => h j (by omega) h2)
theorem head_getD (s : ByteArray) {k i : Nat} (h : i < k) (hk : k ≤ s.size) : (s.extract 0 k).data.toList.getD i 0 = s.data.toList.getD i 0 := by
  rw [head_bytes, List.getD_eq_getElem?_getD, List.getD_eq_getElem?_getD, List.getElem?_take_of_lt h]
theorem head_cut (s : ByteArray) {k fr i : Nat} (h : i ≤ k) : (s.extract 0 k).extract fr i = s.extract fr i := by
  refine ba_eq ?_
  rw [cut_bytes, cut_bytes, cut_bytes, List.drop_zero, List.take_take, Nat.min_eq_left h]
theorem pcs_cut (s : ByteArray) (k : Nat) (hk : k < s.size) (h47 : s.data.toList.getD k 0 = 47) : ∀ (m fr i : Nat), i + m = k → pcs 47 s (s.size - i) fr i = pcs 47 (s.extract 0 k) m fr i ++ pcs 47 s (s.size - (k + 1)) (k + 1) (k + 1)
  | 0, fr, i, hi => by
    obtain rfl : i = k := by omega
    rw [pcs_hit hk h47, pcs, head_cut s (Nat.le_refl _)]
    rfl
  | m + 1, fr, i, hi => by
    rw [pcs, head_getD s (by omega) (by omega)]
    split
    · rename_i h
      rw [pcs_hit (by omega) h, pcs_cut s k hk h47 m (i + 1) (i + 1) (by omega), head_cut s (by omega)]
      rfl
    · rename_i h
      rw [pcs_miss (by omega) h]
      exact pcs_cut s k hk h47 m fr (i + 1) (by omega)
theorem lastCut_none {l : List UInt8} : ∀ n, lastCut l n = 0 → ∀ j, j < n → ¬ l.getD j 0 = 47
  | 0, _, j, hj => absurd hj (Nat.not_lt_zero _)
  | n + 1, h, j, hj => by
    rw [lastCut] at h
    split at h
    · cases h
    · rename_i h1
      by_cases e : j = n
      · rw [e]; exact h1
      · exact lastCut_none n h j (by omega)
theorem lastCut_some {l : List UInt8} {k : Nat} : ∀ n, lastCut l n = k + 1 → k < n ∧ l.getD k 0 = 47 ∧ ∀ j, k < j → j < n → ¬ l.getD j 0 = 47
  | 0, h => nomatch h
  | n + 1, h => by
    rw [lastCut] at h
    split at h
    · rename_i h1
      obtain rfl : n = k := by omega
      exact ⟨by omega, h1, fun j h2 h3 => absurd h2 (by omega)⟩
    · rename_i h1
      obtain ⟨a, b, c⟩ := lastCut_some n h
      refine ⟨by omega, b, fun j h2 h3 => ?_⟩
      by_cases e : j = n
      · rw [e]; exact h1
      · exact c j h2 (by omega)
theorem extract_size {s : ByteArray} {i j : Nat} (h : j ≤ s.size) : (s.extract i j).size = j - i := by
  rw [ByteArray.size_extract]; omega
theorem nameOk_nil : nameOk ⟨#[]⟩ = false := by decide
/-- What is split well is its names, and the last of them. -/
theorem split_names {s : ByteArray} (h : (splitF s).2.2 = true) : pathOk s = true ∧ namesZ s = namesZ (splitF s).1 ++ [(splitF s).2.1] ∧ pathOk (splitF s).1 = true ∧ underB s (splitF s).1 = true := by
  have h0 : ¬ s = ⟨#[]⟩ := fun e => by rw [splitF_nil e] at h; cases h
  have h1 : pathOk s = true := by
    cases hp : pathOk s
    · rw [splitF_bad hp] at h; cases h
    · rfl
  have hz : namesZ s = names s := by unfold namesZ; rw [if_neg h0]
  have hall : pathOk s = true → ∀ st : List ByteArray, (∃ x, namesZ s = st ++ x) → (st.all nameOk && decide ((st.length : Int) ≤ 4)) = true := by
    intro hp st hx
    obtain ⟨x, hx⟩ := hx
    unfold pathOk at hp
    rw [hx] at hp
    simp only [Bool.and_eq_true, decide_eq_true_eq, List.all_append, List.length_append] at hp ⊢
    exact ⟨hp.1.1, by omega⟩
  have hE : pathOk ⟨#[]⟩ = true := by decide
  cases hc : lastCut s.data.toList s.size with
  | zero =>
    rw [splitF_top h0 h1 hc]
    have hn : names s = [s] := by
      unfold names
      rw [pcs_none s s.size 0 0 (by omega) (fun j _ h2 => lastCut_none s.size hc j h2)]
      congr 1
      refine ba_eq ?_
      rw [cut_bytes, List.drop_zero, List.take_of_length_le (by rw [bs_len]; omega)]
    refine ⟨h1, ?_, hE, ?_⟩
    · rw [hz, hn]; rfl
    · unfold underB; rw [h1, hE]; rfl
  | succ k =>
    obtain ⟨k1, k2, k3⟩ := lastCut_some s.size hc
    rw [splitF_cut h0 h1 hc]
    have hn : names s = names (s.extract 0 k) ++ [s.extract (k + 1) s.size] := by
      have e1 : (s.extract 0 k).size = k := by rw [extract_size (by omega), Nat.sub_zero]
      have e := pcs_cut s k k1 k2 k 0 0 (by omega)
      rw [Nat.sub_zero] at e
      unfold names
      rw [e, e1, pcs_none s (s.size - (k + 1)) (k + 1) (k + 1) (by omega) (fun j h2 h3 => k3 j (by omega) h3)]
    have hk : ¬ s.extract 0 k = ⟨#[]⟩ := by
      intro e
      have := h1
      unfold pathOk at this
      rw [hz, hn, e] at this
      have e2 : names ⟨#[]⟩ = [⟨#[]⟩] := rfl
      rw [e2] at this
      simp only [List.cons_append, List.nil_append, List.all_cons, nameOk_nil, Bool.false_and] at this
      cases this
    have hu : namesZ (s.extract 0 k) = names (s.extract 0 k) := by unfold namesZ; rw [if_neg hk]
    have hup : pathOk (s.extract 0 k) = true := by
      unfold pathOk
      exact hall h1 _ ⟨[s.extract (k + 1) s.size], by rw [hz, hn, hu]⟩
    refine ⟨h1, by rw [hz, hn, hu], hup, ?_⟩
    have e1 : (s.extract 0 k).size = k := by rw [extract_size (by omega), Nat.sub_zero]
    unfold underB preB
    rw [h1, hup, e1, k2]
    have : (k : Int) < s.size := by omega
    simp [this]
end Go.Proofs.YtoenfbbadfcfpaaGreatDoor
namespace Go.Proofs.YtoenfbbadfcfpaaGreatDoor
open Go.VM
set_option maxRecDepth 100000
set_option linter.unusedSimpArgs false
set_option linter.unusedVariables false

attribute [local congr] vw_congr runV_congr runH_congr runW_congr runX_congr stuckV_congr stuckX_congr


abbrev It3 := ByteArray × Bool × ByteArray
def iRow (x : It3) : List T := [.str x.1, .bool x.2.1, .str x.2.2]

theorem iRow_r1 (x : It3) : (iRow x).map T.toRO = iRow x := by simp [iRow]
theorem iRow_clean (l : List It3) : cleanRs (l.map iRow) = true := clean_map (fun x => rfl) l
end Go.Proofs.YtoenfbbadfcfpaaGreatDoor
namespace Go.Proofs.YtoenfbbadfcfpaaGreatDoor
open Go.VM
set_option maxRecDepth 100000
set_option linter.unusedSimpArgs false
set_option linter.unusedVariables false

attribute [local congr] vw_congr runV_congr runH_congr runW_congr runX_congr stuckV_congr stuckX_congr

def zI : List T := [.str ⟨#[]⟩, .bool false, .str ⟨#[]⟩]

end Go.Proofs.YtoenfbbadfcfpaaGreatDoor
namespace Go.Proofs.YtoenfbbadfcfpaaGreatDoor
open Go.VM
set_option maxRecDepth 100000
set_option linter.unusedSimpArgs false
set_option linter.unusedVariables false

attribute [local congr] vw_congr runV_congr runH_congr runW_congr runX_congr stuckV_congr stuckX_congr

def hasPath (q : ByteArray) (x : It3) : Bool := decide (x.1 = q)

theorem runs_60 (x : It3) (q : ByteArray) : Runs Tryz.prog 60 [.agg [.v (.str x.1), .v (.bool x.2.1), .v (.str x.2.2)], .one (.ref [.str q])] [.one (.v (.bool (hasPath q x)))] [] := by
  refine runs_tab (tab := [(0, .agg [.c (.str x.1), .c (.bool x.2.1), .c (.str x.2.2)]), (1, .rop [.str q])]) (rts := []) (n := 8) (k := 4) Tryz.func60 rfl rfl (by simp) rfl (fun t => ?_) rfl ?_
  · rcases t with _ | _ | t <;> rfl
  (refine vw_go rfl ?_; simp only [go_sem, setCells, setIn])
  (refine vw_go rfl ?_; simp only [go_sem, setCells, setIn])
  exact vw_ret (e_ret (ret_of rfl rfl (by simp [RB]) rfl rfl))

theorem runs_59 (l : List It3) (hl : l.length < 2 ^ 63) (f : Nat) (fn : Func) (caps : List T) (p : It3 → Bool) (hf : Tryz.prog.funcs[f]? = some fn) (hbody : fn.body.isNone = false) (hname : (fn.name == "runtime.NumGoroutine") = false)
    (hp : ∀ x : It3, Runs Tryz.prog f [.agg [.v (.str x.1), .v (.bool x.2.1), .v (.str x.2.2)], .one (.ref caps)] [.one (.v (.bool (p x)))] []) :
    Runs Tryz.prog 59 [.one (.v (.list false 3 (l.map iRow))), .one (.fn f [caps])] [.one (.v (.int .i64 (idxOf p l 0)))] [] := by
  refine runs_tab (tab := [(0, .c (.list false 3 (l.map iRow))), (1, .fn f [caps])]) (rts := []) (n := 19) (k := 2) Tryz.func59 rfl rfl (by simp) rfl (fun t => ?_) rfl ?_
  · rcases t with _ | _ | t <;> rfl
  (refine vw_go rfl ?_; simp only [go_sem, setCells, setIn])
  refine vw_seq ?_
  (refine vw_go rfl ?_; simp only [go_sem, setCells, setIn])
  refine vw_block ?_
  refine vw_loop_tab (α := Nat) (fun x => l.length - x) (fun x => ⟨tabE [(0, .c (.list false 3 (l.map iRow))), (1, .fn f [caps]), (7, .c (.int .i64 l.length)), (8, .c (.int .i64 x))], tabS [], 2⟩)
    (fun x => x ≤ l.length ∧ idxOf p (l.drop x) x = idxOf p l 0) (x := 0) ?round ?h0 ?hn
  case h0 => exact ⟨Nat.zero_le _, rfl⟩
  case hn => (refine norm_to [] rfl ?_ ?_ <;> simp only [go_sem])
  rintro i ⟨hi, hm⟩
  (refine vw_go rfl ?_; simp only [go_sem, setCells, setIn])
  refine vw_seq ?_
  refine vw_cond (t := decide ((i : Int) < l.length)) rfl (fun h => ?_) (fun h => ?_)
  · refine vw_skip (n_then ?_)
    rcases get_or l i with ⟨x, hx, hlt⟩ | ⟨_, hge⟩
    case inr => simp only [decide_eq_true_eq] at h; omega
    have c1 : (0:Int) ≤ (i:Int) := by omega
    have c2 : (i:Int) < (l.length : Int) := by omega
    rw [drop_of hx] at hm
    refine vw_seq ?_
    refine vw_block ?_
    (refine vw_go rfl ?_; simp only [go_sem, setCells, setIn])
    (refine vw_go rfl ?_; simp only [c1, c2, Int.toNat_natCast, getD_map_of hx, iRow, go_sem, setCells, setIn])
    refine ⟨_, _, call_rd [0] hf (hp x) rfl rfl rfl hbody hname rfl rfl rfl rfl rfl rfl rfl rfl, ?_⟩
    simp only [runH, runX, go_sem, setCells, setIn]
    refine vw_cond (t := p x) rfl (fun h => ?_) (fun h => ?_)
    · (refine vw_go rfl ?_; simp only [go_sem, setCells, setIn])
      simp only [idxOf, h, if_true] at hm
      rw [← hm]
      exact vw_ret (r_block (r_then (r_then (r_block (r_then (e_ret (ret_of rfl rfl (by simp [RB]) rfl rfl)))))))
    · refine vw_skip (n_block (n_then ?_))
      have w2 : IntKind.wrap .i64 ((i:Int) + 1) = ((i + 1 : Nat) : Int) := by rw [wrap_i64 (by omega) (by omega)]; rfl
      (refine vw_last rfl ?_; simp only [w2, go_sem, setCells, setIn])
      refine (n_then ?_)
      simp only [idxOf, h, Bool.false_eq_true, if_false] at hm
      refine ⟨i + 1, by omega, ⟨hlt, hm⟩, ?_⟩
      (refine norm_to [] rfl ?_ ?_ <;> simp only [go_sem])
  · refine vw_exit (x_then (x_then (x_block (n_then ?_))))
    (refine vw_go rfl ?_; simp only [go_sem, setCells, setIn])
    simp only [decide_eq_false_iff_not] at h
    have : i = l.length := by omega
    subst this
    simp only [List.drop_length, idxOf] at hm
    rw [← hm]
    exact vw_ret (e_ret (ret_of rfl rfl (by simp [RB]) rfl rfl))

theorem runs_27 (l : List It3) (q : ByteArray) (hl : l.length < 2 ^ 63) :
    Runs Tryz.prog 27 [.one (.v (.list false 3 (l.map iRow))), .one (.v (.str q))] [.one (.v (.int .i64 (idxOf (hasPath q) l 0)))] [] := by
  refine runs_tab (tab := [(0, .c (.list false 3 (l.map iRow))), (1, .c (.str q))]) (rts := []) (n := 8) (k := 2) Tryz.func27 rfl rfl (by simp) rfl (fun t => ?_) rfl ?_
  · rcases t with _ | _ | t <;> rfl
  (refine vw_go rfl ?_; simp only [go_sem, setCells, setIn])
  (refine vw_go rfl ?_; simp only [go_sem, setCells, setIn])
  refine ⟨_, _, mk_ok [2] rfl rfl rfl rfl, ?_⟩
  simp only [runH, runX, go_sem, setCells, setIn]
  (refine ⟨_, _, call_rd [0, 0] Tryz.func59 (runs_59 l hl 60 Tryz.f60 [.str q] (hasPath q) Tryz.func60 rfl rfl (fun x => runs_60 x q)) rfl rfl rfl rfl rfl rfl rfl rfl (by simp [rcells, RT.cells, iRow_r1]) rfl rfl rfl rfl, ?_⟩)
  simp only [runH, runX, go_sem, setCells, setIn]
  exact vw_ret (e_ret (ret_of rfl rfl (by simp [RB]) rfl rfl))
end Go.Proofs.YtoenfbbadfcfpaaGreatDoor
namespace Go.Proofs.YtoenfbbadfcfpaaGreatDoor
open Go.VM
set_option maxRecDepth 100000
set_option linter.unusedSimpArgs false
set_option linter.unusedVariables false
attribute [local congr] vw_congr runV_congr runH_congr runW_congr runX_congr stuckV_congr stuckX_congr

theorem idxOf_at {α : Type} (p : α → Bool) : ∀ (l : List α) (i : Nat), idxOf p l i = -1 ∨ ∃ (j : Nat) (x : α), idxOf p l i = ((i + j : Nat) : Int) ∧ l[j]? = some x
  | [], i => .inl rfl
  | x :: l, i => by
    by_cases h : p x = true
    · exact .inr ⟨0, x, by simp only [idxOf, h, if_true]; rfl, rfl⟩
    · have h' : p x = false := by simpa using h
      rcases idxOf_at p l (i + 1) with e | ⟨j, y, e, hy⟩
      · exact .inl (by simp only [idxOf, h', Bool.false_eq_true, if_false, e])
      · exact .inr ⟨j + 1, y, by simp only [idxOf, h', Bool.false_eq_true, if_false, e]; congr 1; omega, hy⟩
def dirAt (l : List It3) (i : Nat) : Bool := match l[i]? with | some x => x.2.1 | none => false
def isFold (l : List It3) (q : ByteArray) : Bool := decide (q = ⟨#[]⟩) || (decide (0 ≤ idxOf (hasPath q) l 0) && dirAt l (idxOf (hasPath q) l 0).toNat)
def itemBad (l : List It3) (i : Nat) (x : It3) : Bool := !(splitF x.1).2.2 || (decide ((60:Int) < x.2.2.size) || ((x.2.1 && !decide (x.2.2 = ⟨#[]⟩)) || (!decide (idxOf (hasPath x.1) l 0 = (i : Int)) || !isFold l (splitF x.1).1)))
def okFrom (l : List It3) : List It3 → Nat → Bool
  | [], _ => true
  | x :: r, i => !itemBad l i x && okFrom l r (i + 1)
def itemsOk (l : List It3) : Bool := okFrom l l 0 && decide ((l.length : Int) ≤ 11)

theorem runs_56 (l : List It3) (q : ByteArray) (hl : l.length < 2 ^ 62) : Runs Tryz.prog 56 [.one (.v (.list false 3 (l.map iRow))), .one (.v (.str q))] [.one (.v (.bool (isFold l q)))] [] := by
  refine runs_tab (tab := [(0, .c (.list false 3 (l.map iRow))), (1, .c (.str q))]) (rts := []) (n := 22) (k := 2) Tryz.func56 rfl rfl (by simp) rfl (fun t => ?_) rfl ?_
  · rcases t with _ | _ | t <;> rfl
  have hF := runs_27 l q (by omega)
  rcases idxOf_at (hasPath q) l 0 with e | ⟨j, x, e, hx⟩
  · rw [e] at hF
    (refine vw_go rfl ?_; simp only [go_sem, setCells, setIn])
    (refine vw_go rfl ?_; simp only [go_sem, setCells, setIn])
    (refine ⟨_, _, call_rx [0, 0] Tryz.func27 (hF) rfl rfl rfl rfl rfl rfl rfl (by simp [lendAll, lendC, seek, fresh, nav, rcells, RT.cells, VV.cells, tabE_cons, tabS_cons, ev, take_map_len, iRow_r1, iRow_clean]) rfl (by simp [rcells, RT.cells, CT.clean, T.clean, iRow_r1, iRow_clean]) rfl rfl, ?_⟩)
    simp only [runH, runX, go_sem, setCells, setIn]
    cases hz : decide (q = ⟨#[]⟩)
    · (refine vw_go rfl ?_; simp only [hz, go_sem, setCells, setIn])
      rw [show isFold l q = false from by simp [isFold, hz, e]]
      exact vw_ret (e_ret (ret_of rfl rfl (by simp [RB]) rfl rfl))
    · (refine vw_go rfl ?_; simp only [hz, go_sem, setCells, setIn])
      rw [show isFold l q = true from by simp only [isFold, hz, Bool.true_or]]
      exact vw_ret (e_ret (ret_of rfl rfl (by simp [RB]) rfl rfl))
  · rw [Nat.zero_add] at e
    rw [e] at hF
    have hlt := lt_of_getl hx
    have c1 : (0:Int) ≤ (j:Int) := by omega
    have c2 : (j:Int) < (l.length : Int) := by omega
    (refine vw_go rfl ?_; simp only [go_sem, setCells, setIn])
    (refine vw_go rfl ?_; simp only [go_sem, setCells, setIn])
    (refine ⟨_, _, call_rx [0, 0] Tryz.func27 (hF) rfl rfl rfl rfl rfl rfl rfl (by simp [lendAll, lendC, seek, fresh, nav, rcells, RT.cells, VV.cells, tabE_cons, tabS_cons, ev, take_map_len, iRow_r1, iRow_clean]) rfl (by simp [rcells, RT.cells, CT.clean, T.clean, iRow_r1, iRow_clean]) rfl rfl, ?_⟩)
    simp only [runH, runX, go_sem, setCells, setIn]
    cases hz : decide (q = ⟨#[]⟩)
    · (refine vw_go rfl ?_; simp only [hz, c1, c2, Int.toNat_natCast, getD_map_of hx, iRow, go_sem, setCells, setIn])
      rw [show isFold l q = x.2.1 from by simp only [isFold, hz, e, Bool.false_or, Int.toNat_natCast, dirAt, hx]; simp]
      exact vw_ret (e_ret (ret_of rfl rfl (by simp [RB]) rfl rfl))
    · (refine vw_go rfl ?_; simp only [hz, go_sem, setCells, setIn])
      rw [show isFold l q = true from by simp only [isFold, hz, Bool.true_or]]
      exact vw_ret (e_ret (ret_of rfl rfl (by simp [RB]) rfl rfl))

theorem okFrom_bad {b r : Bool} (h : b = true) : (!b && r) = false := by simp [h]
theorem okFrom_good {b r : Bool} (h : b = false) : (!b && r) = r := by simp [h]

theorem runs_25 (l : List It3) (hb : ∀ x ∈ l, x.1.size ≤ 2 ^ 20) (hl : l.length < 2 ^ 62) : Runs Tryz.prog 25 [.one (.v (.list false 3 (l.map iRow)))] [.one (.v (.bool (itemsOk l)))] [] := by
  refine runs_tab (tab := [(0, .c (.list false 3 (l.map iRow)))]) (rts := []) (n := 57) (k := 1) Tryz.func25 rfl rfl (by simp) rfl (fun t => ?_) rfl ?_
  · rcases t with _ | t <;> rfl
  (refine vw_go rfl ?_; simp only [go_sem, setCells, setIn])
  refine vw_seq ?_
  (refine vw_go rfl ?_; simp only [go_sem, setCells, setIn])
  refine vw_block ?_
  refine vw_loop_tab (α := Nat) (fun x => l.length - x) (fun x => ⟨tabE [(0, .c (.list false 3 (l.map iRow))), (8, .c (.list false 3 (l.map iRow))), (9, .c (.int .i64 l.length)), (10, .c (.int .i64 x))], tabS [], 1⟩)
    (fun x => x ≤ l.length ∧ okFrom l (l.drop x) x = okFrom l l 0) (x := 0) ?round ?h0 ?hn
  case h0 => exact ⟨Nat.zero_le _, rfl⟩
  case hn => (refine norm_to [] rfl ?_ ?_ <;> simp only [go_sem])
  rintro i ⟨hi, hm⟩
  (refine vw_go rfl ?_; simp only [go_sem, setCells, setIn])
  refine vw_seq ?_
  refine vw_cond (t := decide ((i : Int) < l.length)) rfl (fun h => ?_) (fun h => ?_)
  · refine vw_skip (n_then ?_)
    rcases get_or l i with ⟨⟨p, d, t⟩, hx, hlt⟩ | ⟨_, hge⟩
    case inr => simp only [decide_eq_true_eq] at h; omega
    have c1 : (0:Int) ≤ (i:Int) := by omega
    have c2 : (i:Int) < (l.length : Int) := by omega
    have w2 : IntKind.wrap .i64 ((i:Int) + 1) = ((i + 1 : Nat) : Int) := by rw [wrap_i64 (by omega) (by omega)]; rfl
    have hps : p.size ≤ 2 ^ 20 := hb _ (List.mem_of_getElem? hx)
    have rS := runs_55 p hps
    have rF := runs_27 l p (by omega)
    rw [drop_of hx, okFrom] at hm
    have hB : itemBad l i (p, d, t) = (!(splitF p).2.2 || (decide ((60:Int) < t.size) || ((d && !decide (t = ⟨#[]⟩)) || (!decide (idxOf (hasPath p) l 0 = (i : Int)) || !isFold l (splitF p).1)))) := rfl
    rw [hB] at hm
    generalize splitF p = W at rS hm
    obtain ⟨a, b, c⟩ := W
    simp only at rS hm
    generalize idxOf (hasPath p) l 0 = j at rF hm
    refine vw_seq ?_
    refine vw_block ?_
    (refine vw_go rfl ?_; simp only [c1, c2, Int.toNat_natCast, getD_map_of hx, iRow, go_sem, setCells, setIn])
    (refine vw_go rfl ?_; simp only [go_sem, setCells, setIn])
    (refine ⟨_, _, call_rd [0] Tryz.func55 (rS) rfl rfl rfl rfl rfl rfl rfl rfl rfl rfl rfl rfl rfl, ?_⟩)
    simp only [runH, runX, go_sem, setCells, setIn]
    cases c
    · (refine vw_go rfl ?_; simp only [go_sem, setCells, setIn])
      refine vw_cond (t := true) rfl (fun h => ?_) (fun h => ?_)
      case refine_2 => cases h
      (refine vw_go rfl ?_; simp only [go_sem, setCells, setIn])
      rw [okFrom_bad (by simp)] at hm
      rw [show itemsOk l = false from by rw [itemsOk, ← hm, Bool.false_and]]
      exact vw_ret (r_block (r_then (r_then (r_block (r_then (e_ret (ret_of rfl rfl (by simp [RB]) rfl rfl)))))))
    by_cases h60 : (60:Int) < t.size
    · (refine vw_go rfl ?_; simp only [h60, go_sem, setCells, setIn])
      refine vw_cond (t := true) rfl (fun h => ?_) (fun h => ?_)
      case refine_2 => cases h
      (refine vw_go rfl ?_; simp only [go_sem, setCells, setIn])
      rw [okFrom_bad (by simp [h60])] at hm
      rw [show itemsOk l = false from by rw [itemsOk, ← hm, Bool.false_and]]
      exact vw_ret (r_block (r_then (r_then (r_block (r_then (e_ret (ret_of rfl rfl (by simp [RB]) rfl rfl)))))))
    cases d
    · skip
      by_cases hj : j = (i : Int)
      case neg =>
        have hj' : decide (j = (i : Int)) = false := by simp [hj]
        (refine vw_go rfl ?_; simp only [h60, go_sem, setCells, setIn])
        (refine ⟨_, _, call_rx [0, 0] Tryz.func27 (rF) rfl rfl rfl rfl rfl rfl rfl (by simp [lendAll, lendC, seek, fresh, nav, rcells, RT.cells, VV.cells, tabE_cons, tabS_cons, ev, take_map_len, iRow_r1, iRow_clean]) rfl (by simp [rcells, RT.cells, CT.clean, T.clean, iRow_r1, iRow_clean]) rfl rfl, ?_⟩)
        simp only [runH, runX, hj', go_sem, setCells, setIn]
        refine vw_cond (t := true) rfl (fun h => ?_) (fun h => ?_)
        case refine_2 => cases h
        (refine vw_go rfl ?_; simp only [go_sem, setCells, setIn])
        rw [okFrom_bad (by simp [hj])] at hm
        rw [show itemsOk l = false from by rw [itemsOk, ← hm, Bool.false_and]]
        exact vw_ret (r_block (r_then (r_then (r_block (r_then (e_ret (ret_of rfl rfl (by simp [RB]) rfl rfl)))))))
      have hj' : decide (j = (i : Int)) = true := by simp [hj]
      (refine vw_go rfl ?_; simp only [h60, go_sem, setCells, setIn])
      (refine ⟨_, _, call_rx [0, 0] Tryz.func27 (rF) rfl rfl rfl rfl rfl rfl rfl (by simp [lendAll, lendC, seek, fresh, nav, rcells, RT.cells, VV.cells, tabE_cons, tabS_cons, ev, take_map_len, iRow_r1, iRow_clean]) rfl (by simp [rcells, RT.cells, CT.clean, T.clean, iRow_r1, iRow_clean]) rfl rfl, ?_⟩)
      simp only [runH, runX, hj', go_sem, setCells, setIn]
      (refine ⟨_, _, call_rx [0, 0] Tryz.func56 (runs_56 l a hl) rfl rfl rfl rfl rfl rfl rfl (by simp [lendAll, lendC, seek, fresh, nav, rcells, RT.cells, VV.cells, tabE_cons, tabS_cons, ev, take_map_len, iRow_r1, iRow_clean]) rfl (by simp [rcells, RT.cells, CT.clean, T.clean, iRow_r1, iRow_clean]) rfl rfl, ?_⟩)
      cases hf : isFold l a
      · simp only [runH, runX, hf, go_sem, setCells, setIn]
        refine vw_cond (t := true) rfl (fun h => ?_) (fun h => ?_)
        case refine_2 => cases h
        (refine vw_go rfl ?_; simp only [go_sem, setCells, setIn])
        rw [okFrom_bad (by simp [hf])] at hm
        rw [show itemsOk l = false from by rw [itemsOk, ← hm, Bool.false_and]]
        exact vw_ret (r_block (r_then (r_then (r_block (r_then (e_ret (ret_of rfl rfl (by simp [RB]) rfl rfl)))))))
      · simp only [runH, runX, hf, go_sem, setCells, setIn]
        refine vw_cond (t := false) rfl (fun h => ?_) (fun h => ?_)
        · cases h
        refine vw_skip (n_block (n_then ?_))
        (refine vw_last rfl ?_; simp only [w2, go_sem, setCells, setIn])
        refine (n_then ?_)
        rw [okFrom_good (by simp [h60, hj, hf])] at hm
        refine ⟨i + 1, by omega, ⟨hlt, hm⟩, ?_⟩
        (refine norm_to [] rfl ?_ ?_ <;> simp only [go_sem])

    · cases ht : decide (t = ⟨#[]⟩)
      · (refine vw_go rfl ?_; simp only [h60, ht, go_sem, setCells, setIn])
        refine vw_cond (t := true) rfl (fun h => ?_) (fun h => ?_)
        case refine_2 => cases h
        (refine vw_go rfl ?_; simp only [go_sem, setCells, setIn])
        rw [okFrom_bad (by simp [ht])] at hm
        rw [show itemsOk l = false from by rw [itemsOk, ← hm, Bool.false_and]]
        exact vw_ret (r_block (r_then (r_then (r_block (r_then (e_ret (ret_of rfl rfl (by simp [RB]) rfl rfl)))))))
      by_cases hj : j = (i : Int)
      case neg =>
        have hj' : decide (j = (i : Int)) = false := by simp [hj]
        (refine vw_go rfl ?_; simp only [h60, ht, go_sem, setCells, setIn])
        (refine ⟨_, _, call_rx [0, 0] Tryz.func27 (rF) rfl rfl rfl rfl rfl rfl rfl (by simp [lendAll, lendC, seek, fresh, nav, rcells, RT.cells, VV.cells, tabE_cons, tabS_cons, ev, take_map_len, iRow_r1, iRow_clean]) rfl (by simp [rcells, RT.cells, CT.clean, T.clean, iRow_r1, iRow_clean]) rfl rfl, ?_⟩)
        simp only [runH, runX, hj', go_sem, setCells, setIn]
        refine vw_cond (t := true) rfl (fun h => ?_) (fun h => ?_)
        case refine_2 => cases h
        (refine vw_go rfl ?_; simp only [go_sem, setCells, setIn])
        rw [okFrom_bad (by simp [hj])] at hm
        rw [show itemsOk l = false from by rw [itemsOk, ← hm, Bool.false_and]]
        exact vw_ret (r_block (r_then (r_then (r_block (r_then (e_ret (ret_of rfl rfl (by simp [RB]) rfl rfl)))))))
      have hj' : decide (j = (i : Int)) = true := by simp [hj]
      (refine vw_go rfl ?_; simp only [h60, ht, go_sem, setCells, setIn])
      (refine ⟨_, _, call_rx [0, 0] Tryz.func27 (rF) rfl rfl rfl rfl rfl rfl rfl (by simp [lendAll, lendC, seek, fresh, nav, rcells, RT.cells, VV.cells, tabE_cons, tabS_cons, ev, take_map_len, iRow_r1, iRow_clean]) rfl (by simp [rcells, RT.cells, CT.clean, T.clean, iRow_r1, iRow_clean]) rfl rfl, ?_⟩)
      simp only [runH, runX, hj', go_sem, setCells, setIn]
      (refine ⟨_, _, call_rx [0, 0] Tryz.func56 (runs_56 l a hl) rfl rfl rfl rfl rfl rfl rfl (by simp [lendAll, lendC, seek, fresh, nav, rcells, RT.cells, VV.cells, tabE_cons, tabS_cons, ev, take_map_len, iRow_r1, iRow_clean]) rfl (by simp [rcells, RT.cells, CT.clean, T.clean, iRow_r1, iRow_clean]) rfl rfl, ?_⟩)
      cases hf : isFold l a
      · simp only [runH, runX, hf, go_sem, setCells, setIn]
        refine vw_cond (t := true) rfl (fun h => ?_) (fun h => ?_)
        case refine_2 => cases h
        (refine vw_go rfl ?_; simp only [go_sem, setCells, setIn])
        rw [okFrom_bad (by simp [hf])] at hm
        rw [show itemsOk l = false from by rw [itemsOk, ← hm, Bool.false_and]]
        exact vw_ret (r_block (r_then (r_then (r_block (r_then (e_ret (ret_of rfl rfl (by simp [RB]) rfl rfl)))))))
      · simp only [runH, runX, hf, go_sem, setCells, setIn]
        refine vw_cond (t := false) rfl (fun h => ?_) (fun h => ?_)
        · cases h
        refine vw_skip (n_block (n_then ?_))
        (refine vw_last rfl ?_; simp only [w2, go_sem, setCells, setIn])
        refine (n_then ?_)
        rw [okFrom_good (by simp [h60, hj, hf, ht])] at hm
        refine ⟨i + 1, by omega, ⟨hlt, hm⟩, ?_⟩
        (refine norm_to [] rfl ?_ ?_ <;> simp only [go_sem])
  · refine vw_exit (x_then (x_then (x_block (n_then ?_))))
    simp only [decide_eq_false_iff_not] at h
    have : i = l.length := by omega
    subst this
    rw [List.drop_length, okFrom] at hm
    (refine vw_go rfl ?_; simp only [go_sem, setCells, setIn])
    rw [show itemsOk l = decide ((l.length : Int) ≤ 11) from by rw [itemsOk, ← hm, Bool.true_and]]
    exact vw_ret (e_ret (ret_of rfl rfl (by simp [RB]) rfl rfl))

end Go.Proofs.YtoenfbbadfcfpaaGreatDoor
