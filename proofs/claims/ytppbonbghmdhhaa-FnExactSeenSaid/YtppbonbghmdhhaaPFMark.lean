/- Marks: their texts; lists of texts: size, copy, comparing, marking, and reading marks again. -/
import Derived.Test.YtppbonbghmdhhaaPFBase
import Derived.Test.YtppbonbghmdhhaaPVBk
namespace Go.Proofs.Ytppbonbghmdhhaa
open Go.VM
set_option maxRecDepth 100000
set_option linter.unusedSimpArgs false
set_option linter.unusedVariables false
attribute [local congr] vw_congr runV_congr runH_congr runW_congr runX_congr

theorem range1 : List.range 1 = [0] := rfl

def dig (k : Nat) : ByteArray := ⟨#[UInt8.ofNat (IntKind.wrap .u8 (IntKind.wrap .i64 (48 + (k : Int).tmod 10))).toNat]⟩
def mtL : Nat → Nat → ByteArray → ByteArray
  | 0, _, s => s
  | f + 1, k, s => if 0 < k then mtL f (k / 10) (dig k ++ s) else s
def mt (k : Int) : ByteArray := if k ≤ 0 then ⟨#[109, 48]⟩ else ⟨#[109]⟩ ++ mtL 64 k.toNat ⟨#[]⟩

theorem runs_77 (k : Int) (h0 : 0 ≤ k) (h1 : k < 2 ^ 63) : Runs Try.prog 77 [.one (.v (.int .i64 k))] [.one (.v (.str (mt k)))] [] := by
  refine runs_tab (tab := [(0, .c (.int .i64 k))]) (rts := []) (n := 20) (k := 1) Try.func77 rfl rfl (by simp) rfl (fun t => ?_) rfl ?_
  · rcases t with _ | t <;> rfl
  (refine vw_go rfl ?_; simp only [go_sem, setCells, setIn])
  refine vw_seq ?_
  (refine vw_go rfl ?_; simp only [go_sem, setCells, setIn])
  refine vw_cond (t := decide (k ≤ 0)) rfl (fun g => ?_) (fun g => ?_)
  · (refine vw_go rfl ?_; simp only [go_sem, setCells, setIn])
    rw [show mt k = ⟨#[109, 48]⟩ from by simp only [decide_eq_true_eq] at g; simp [mt, g]]
    exact vw_ret (r_then (e_ret (ret_of rfl rfl (by simp [RB]) rfl rfl)))
  refine vw_skip (n_then ?_)
  simp only [decide_eq_false_iff_not] at g
  obtain ⟨n0, rfl⟩ : ∃ n0 : Nat, k = (n0 : Int) := ⟨k.toNat, by omega⟩
  (refine vw_go rfl ?_; simp only [go_sem, setCells, setIn])
  refine vw_seq ?_
  refine vw_block ?_
  refine vw_loop_tab (α := Nat × Nat × ByteArray) (fun x => x.2.1) (fun x => ⟨tabE [(0, .c (.int .i64 x.2.1)), (3, .c (.str x.2.2))], tabS [], 1⟩)
    (fun x => x.2.1 < 10 ^ x.1 ∧ x.2.1 ≤ n0 ∧ x.2.2.size + x.1 ≤ 64 ∧ mtL x.1 x.2.1 x.2.2 = mtL 64 n0 ⟨#[]⟩) (x := (64, n0, ⟨#[]⟩)) ?round ?h0 ?hn
  case h0 => exact ⟨by simp only; omega, Nat.le_refl _, by simp [ByteArray.size], rfl⟩
  case hn => (refine norm_to [] rfl ?_ ?_ <;> simp only [go_sem])
  rintro ⟨f, m, s⟩ ⟨hf, hmn, hs, hm⟩
  simp only at hf hmn hs hm
  refine vw_seq ?_
  (refine vw_go rfl ?_; simp only [go_sem, setCells, setIn])
  refine vw_cond (t := decide ((0:Int) < (m : Int))) rfl (fun h => ?_) (fun h => ?_)
  · refine vw_skip (n_then ?_)
    simp only [decide_eq_true_eq] at h
    have hmp : 0 < m := by omega
    cases f with
    | zero => simp at hf; omega
    | succ f =>
    have e1 : IntKind.wrap .i64 ((m : Int).tdiv 10) = ((m / 10 : Nat) : Int) := by
      have : ((m / 10 : Nat) : Int) = (m : Int).tdiv 10 := Int.ofNat_tdiv m 10
      rw [← this]
      exact wrap_i64 (by omega) (by omega)
    have A1 : 1 + s.size < 2 ^ 60 := by omega
    refine vw_block ?_
    (refine vw_go rfl ?_; simp only [A1, List.size_toArray, range1, bytesV, byteRow, List.replicate_succ, List.replicate_zero, List.flatten_cons, List.flatten_nil, List.mapM_cons, List.mapM_nil, Option.bind_eq_bind, Option.pure_def, go_sem, setCells, setIn])
    (refine vw_last rfl ?_; simp only [e1, go_sem, setCells, setIn])
    refine (n_block (n_then ?_))
    simp only [mtL, hmp, if_true] at hm
    refine ⟨(f, m / 10, dig m ++ s), by simp only; omega, ⟨?_, by simp only; omega, ?_, hm⟩, ?_⟩
    · simp only
      have : 10 ^ (f + 1) = 10 ^ f * 10 := Nat.pow_succ 10 f
      omega
    · have : (dig m).size = 1 := rfl
      simp only [ByteArray.size_append, this]; omega
    · (refine norm_to [] rfl ?_ ?_ <;> simp only [go_sem])
      rfl
  · refine vw_exit (x_then (x_then (x_block (n_then ?_))))
    simp only [decide_eq_false_iff_not] at h
    have hm0 : m = 0 := by omega
    subst hm0
    have A2 : 1 + s.size < 2 ^ 60 := by omega
    (refine vw_go rfl ?_; simp only [A2, List.size_toArray, go_sem, setCells, setIn])
    have e : mtL f 0 s = s := by cases f <;> simp [mtL]
    rw [e] at hm
    rw [show mt (n0 : Int) = ⟨#[109]⟩ ++ s from by simp only [mt]; rw [if_neg g, hm]; simp]
    exact vw_ret (e_ret (ret_of rfl rfl (by simp [RB]) rfl rfl))

/-! ### lists of texts -/

def sRow (s : ByteArray) : List T := [.str s]
def zS : List T := [.str ⟨#[]⟩]
theorem sRow_r1 (x : ByteArray) : (sRow x).map T.toRO = sRow x := by simp [sRow]
theorem sRow_clean (l : List ByteArray) : cleanRs (l.map sRow) = true := clean_map (fun x => rfl) l
def szLT : List ByteArray → Int → Int
  | [], left => left
  | x :: l, left => if left - x.size < 0 then -1 else szLT l (left - x.size)
def szST (l : List ByteArray) (left : Int) : Int := if left - l.length < 0 then -1 else szLT l (left - l.length)
theorem szLT_le : ∀ (l : List ByteArray) (left : Int), 0 ≤ left → szLT l left ≤ left
  | [], left, h => Int.le_refl _
  | x :: l, left, h => by
    simp only [szLT]
    split
    · omega
    · have := szLT_le l (left - x.size) (by omega)
      omega
theorem szST_le (l : List ByteArray) (left : Int) (h : 0 ≤ left) : szST l left ≤ left := by
  unfold szST
  split
  · omega
  · have := szLT_le l (left - l.length) (by omega)
    omega
theorem szST_len {l : List ByteArray} {left : Int} (h : ¬ szST l left < 0) : (l.length : Int) ≤ left := by
  unfold szST at h
  split at h
  · exact absurd (by decide) h
  · omega

theorem runs_10 (l : List ByteArray) (left : Int) (hb : ∀ x ∈ l, x.size < 2 ^ 63) (hl : l.length < 2 ^ 63) (h0 : 0 ≤ left) (h1 : left < 2 ^ 63) :
    Runs Try.prog 10 [.one (.v (.list false 1 (l.map sRow))), .one (.v (.int .i64 left))] [.one (.v (.int .i64 (szST l left)))] [] := by
  refine runs_tab (tab := [(0, .c (.list false 1 (l.map sRow))), (1, .c (.int .i64 left))]) (rts := []) (n := 28) (k := 2) Try.func10 rfl rfl (by simp) rfl (fun t => ?_) rfl ?_
  · rcases t with _ | _ | t <;> rfl
  have w1 : IntKind.wrap .i64 (left - l.length) = left - l.length := wrap_i64 (by omega) (by omega)
  (refine vw_go rfl ?_; simp only [go_sem, setCells, setIn])
  (refine vw_go rfl ?_; simp only [w1, go_sem, setCells, setIn])
  refine vw_seq ?_
  (refine vw_go rfl ?_; simp only [go_sem, setCells, setIn])
  refine vw_cond (t := decide (left - l.length < 0)) rfl (fun h => ?_) (fun h => ?_)
  · (refine vw_go rfl ?_; simp only [go_sem, setCells, setIn])
    simp only [decide_eq_true_eq] at h
    rw [show szST l left = -1 from by simp [szST, h]]
    exact vw_ret (r_then (e_ret (ret_of rfl rfl (by simp [RB]) rfl rfl)))
  · refine vw_skip (n_then ?_)
    simp only [decide_eq_false_iff_not] at h
    have hA := h
    refine vw_seq ?_
    (refine vw_go rfl ?_; simp only [go_sem, setCells, setIn])
    refine vw_block ?_
    refine vw_loop_tab (α := Nat × Int) (fun x => l.length - x.1) (fun x => ⟨tabE [(0, .c (.list false 1 (l.map sRow))), (1, .c (.int .i64 x.2)), (5, .c (.int .i64 x.1))], tabS [], 2⟩)
      (fun x => x.1 ≤ l.length ∧ 0 ≤ x.2 ∧ x.2 < 2 ^ 63 ∧ szLT (l.drop x.1) x.2 = szLT l (left - l.length)) (x := (0, left - l.length)) ?round ?h0 ?hn
    case h0 => exact ⟨Nat.zero_le _, by simp only; omega, by simp only; omega, rfl⟩
    case hn => (refine norm_to [] rfl ?_ ?_ <;> simp only [go_sem])
    rintro ⟨i, m⟩ ⟨hi, hm0, hm1, hm⟩
    simp only at hi hm0 hm1 hm
    refine vw_seq ?_
    (refine vw_go rfl ?_; simp only [go_sem, setCells, setIn])
    refine vw_cond (t := decide ((i : Int) < l.length)) rfl (fun h => ?_) (fun h => ?_)
    · refine vw_skip (n_then ?_)
      rcases get_or l i with ⟨x, hx, hlt⟩ | ⟨_, hge⟩
      case inr => simp only [decide_eq_true_eq] at h; omega
      have hxb := hb x (List.mem_of_getElem? hx)
      refine vw_seq ?_
      refine vw_block ?_
      have c1 : (0:Int) ≤ (i:Int) := by omega
      have c2 : (i:Int) < (l.length : Int) := by omega
      have w3 : IntKind.wrap .i64 (m - x.size) = m - x.size := wrap_i64 (by omega) (by omega)
      (refine vw_go rfl ?_; simp only [c1, c2, Int.toNat_natCast, getD_map_of hx, sRow, w3, go_sem, setCells, setIn])
      (refine vw_go rfl ?_; simp only [go_sem, setCells, setIn])
      refine vw_cond (t := decide (m - x.size < 0)) rfl (fun h => ?_) (fun h => ?_)
      · (refine vw_go rfl ?_; simp only [go_sem, setCells, setIn])
        rw [drop_of hx] at hm
        simp only [decide_eq_true_eq] at h
        simp only [szLT, h, if_true] at hm
        rw [show szST l left = -1 from by simp [szST, hA, ← hm]]
        exact vw_ret (r_block (r_then (r_then (r_block (r_then (e_ret (ret_of rfl rfl (by simp [RB]) rfl rfl)))))))
      · refine vw_skip (n_block (n_then ?_))
        have w2 : IntKind.wrap .i64 ((i:Int) + 1) = ((i + 1 : Nat) : Int) := by rw [wrap_i64 (by omega) (by omega)]; rfl
        (refine vw_last rfl ?_; simp only [w2, go_sem, setCells, setIn])
        refine (n_then ?_)
        simp only [decide_eq_false_iff_not] at h
        rw [drop_of hx] at hm
        simp only [szLT, h, if_false] at hm
        refine ⟨(i + 1, m - x.size), by simp only; omega, ⟨by simp only; omega, by simp only; omega, by simp only; omega, hm⟩, ?_⟩
        (refine norm_to [] rfl ?_ ?_ <;> simp only [go_sem])
    · refine vw_exit (x_then (x_then (x_block (n_then ?_))))
      (refine vw_go rfl ?_; simp only [go_sem, setCells, setIn])
      simp only [decide_eq_false_iff_not] at h
      have : i = l.length := by omega
      subst this
      simp only [List.drop_length, szLT] at hm
      rw [show szST l left = m from by simp [szST, hA, ← hm]]
      exact vw_ret (e_ret (ret_of rfl rfl (by simp [RB]) rfl rfl))

theorem runs_12 (l : List ByteArray) (hl : l.length ≤ 2 ^ 20) :
    Runs Try.prog 12 [.one (.v (.list false 1 (l.map sRow)))] [.one (.v (.list true 1 (l.map sRow)))] [] := by
  refine runs_tab (tab := [(0, .c (.list false 1 (l.map sRow)))]) (rts := []) (n := 22) (k := 1) Try.func12 rfl rfl (by simp) rfl (fun t => ?_) rfl ?_
  · rcases t with _ | t <;> rfl
  have b1 : (0:Int) ≤ (l.length : Int) := by omega
  have b2 : (l.length : Int) * (((16:Nat):Int) + 1) ≤ ((bigRow : Nat) : Int) := by simp only [bigRow]; omega
  have b3 : (l.length : Int) ≤ (l.length : Int) := by omega
  (refine vw_go rfl ?_; simp only [go_sem, setCells, setIn])
  (refine vw_go rfl ?_; simp only [b1, b2, b3, Int.toNat_natCast, go_sem, setCells, setIn])
  refine vw_seq ?_
  (refine vw_go rfl ?_; simp only [go_sem, setCells, setIn])
  refine vw_block ?_
  refine vw_loop_tab (α := Nat) (fun x => l.length - x) (fun x => ⟨tabE [(0, .c (.list false 1 (l.map sRow))), (3, .al 1 [] 0 1 0 l.length), (4, .c (.int .i64 x))], tabS [(1, some ⟨false, 1, fillW sRow zS l x, []⟩)], 2⟩)
    (fun x => x ≤ l.length) (x := 0) ?round ?h0 ?hn
  case h0 => exact Nat.zero_le _
  case hn =>
    (refine norm_to [(67585, 1)] rfl ?_ ?_ <;> simp only [go_sem])
    · simp [fillW_zero, zS]
  intro i hi
  refine vw_seq ?_
  (refine vw_go rfl ?_; simp only [go_sem, setCells, setIn])
  refine vw_cond (t := decide ((i : Int) < l.length)) rfl (fun h => ?_) (fun h => ?_)
  · refine vw_skip (n_then ?_)
    rcases get_or l i with ⟨x, hx, hlt⟩ | ⟨_, hge⟩
    case inr => simp only [decide_eq_true_eq] at h; omega
    have c1 : (0:Int) ≤ (i:Int) := by omega
    have c2 : (i:Int) < (l.length : Int) := by omega
    have e1 : (fillW sRow zS l i).length = l.length := fillW_len hi
    have e2 : (fillW sRow zS l i).getD i [] = zS := fillW_get hlt
    have e3 : setCells i 0 [.str x] (fillW sRow zS l i) = fillW sRow zS l (i + 1) := fillW_set hx rfl rfl
    have e4 : zS.length = 1 := rfl
    refine vw_seq ?_
    refine vw_block ?_
    (refine vw_last rfl ?_; simp only [c1, c2, e1, e2, e3, e4, hlt, Int.toNat_natCast, getD_map_of hx, sRow, go_sem])
    refine (n_block (n_then ?_))
    have w2 : IntKind.wrap .i64 ((i:Int) + 1) = ((i + 1 : Nat) : Int) := by rw [wrap_i64 (by omega) (by omega)]; rfl
    (refine vw_last rfl ?_; simp only [w2, go_sem, setCells, setIn])
    refine (n_then ?_)
    refine ⟨i + 1, by omega, hlt, ?_⟩
    (refine norm_to [(1, 1)] rfl ?_ ?_ <;> simp only [go_sem])
  · refine vw_exit (x_then (x_then (x_block (n_then ?_))))
    (refine vw_go rfl ?_; simp only [go_sem, setCells, setIn])
    simp only [decide_eq_false_iff_not] at h
    have : i = l.length := by omega
    subst this
    rw [← fillW_end sRow zS l]
    exact vw_ret (e_ret (ret_of rfl rfl (by simp [RB]) rfl (take_whole (R := ⟨false, 1, fillW sRow zS l l.length, []⟩) rfl rfl rfl (fillW_len (Nat.le_refl _)))))

theorem runs_15 (a b : List ByteArray) (ha : a.length < 2 ^ 63) (hb : b.length < 2 ^ 63) :
    Runs Try.prog 15 [.one (.v (.list false 1 (a.map sRow))), .one (.v (.list false 1 (b.map sRow)))] [.one (.v (.bool (decide (a = b))))] [] := by
  refine runs_tab (tab := [(0, .c (.list false 1 (a.map sRow))), (1, .c (.list false 1 (b.map sRow)))]) (rts := []) (n := 26) (k := 2) Try.func15 rfl rfl (by simp) rfl (fun t => ?_) rfl ?_
  · rcases t with _ | _ | t <;> rfl
  (refine vw_go rfl ?_; simp only [go_sem, setCells, setIn])
  refine vw_seq ?_
  (refine vw_go rfl ?_; simp only [go_sem, setCells, setIn])
  refine vw_cond (t := !decide ((a.length : Int) = b.length)) rfl (fun h => ?_) (fun h => ?_)
  · (refine vw_go rfl ?_; simp only [go_sem, setCells, setIn])
    have h' : ¬ a = b := by
      intro e; subst e; simp at h
    rw [decide_eq_false h']
    exact vw_ret (r_then (e_ret (ret_of rfl rfl (by simp [RB]) rfl rfl)))
  · have hab : a.length = b.length := by
      have : (a.length : Int) = b.length := by simpa using h
      omega
    refine vw_skip (n_then ?_)
    refine vw_seq ?_
    (refine vw_go rfl ?_; simp only [go_sem, setCells, setIn])
    refine vw_block ?_
    refine vw_loop_tab (α := Nat) (fun x => a.length - x) (fun x => ⟨tabE [(0, .c (.list false 1 (a.map sRow))), (1, .c (.list false 1 (b.map sRow))), (5, .c (.int .i64 x))], tabS [], 2⟩)
      (fun x => x ≤ a.length ∧ a.take x = b.take x) (x := 0) ?round ?h0 ?hn
    case h0 => exact ⟨Nat.zero_le _, by simp⟩
    case hn => (refine norm_to [] rfl ?_ ?_ <;> simp only [go_sem])
    rintro i ⟨hi, htk⟩
    refine vw_seq ?_
    (refine vw_go rfl ?_; simp only [go_sem, setCells, setIn])
    refine vw_cond (t := decide ((i : Int) < a.length)) rfl (fun h => ?_) (fun h => ?_)
    · refine vw_skip (n_then ?_)
      rcases get_or a i with ⟨x, hx, hlt⟩ | ⟨_, hge⟩
      case inr => simp only [decide_eq_true_eq] at h; omega
      rcases get_or b i with ⟨y, hy, hlt'⟩ | ⟨_, hge⟩
      case inr => omega
      have c1 : (0:Int) ≤ (i:Int) := by omega
      have c2 : (i:Int) < (a.length : Int) := by omega
      have c3 : (i:Int) < (b.length : Int) := by omega
      refine vw_seq ?_
      refine vw_block ?_
      (refine vw_draw mixed rfl rfl ?_; simp only [c1, c2, c3, Int.toNat_natCast, getD_map_of hx, getD_map_of hy, sRow, go_sem, setCells, setIn])
      refine ⟨by unfold allOk; kernel_rfl, ?_⟩
      refine vw_cond (t := !decide (x = y)) rfl (fun h => ?_) (fun h => ?_)
      · (refine vw_go rfl ?_; simp only [go_sem, setCells, setIn])
        have h' : ¬ a = b := by
          intro e; subst e
          rw [hx] at hy
          simp only [Option.some.injEq] at hy
          subst hy
          simp at h
        rw [decide_eq_false h']
        exact vw_ret (r_block (r_then (r_then (r_block (r_then (e_ret (ret_of rfl rfl (by simp [RB]) rfl rfl)))))))
      · refine vw_skip (n_block (n_then ?_))
        have w2 : IntKind.wrap .i64 ((i:Int) + 1) = ((i + 1 : Nat) : Int) := by rw [wrap_i64 (by omega) (by omega)]; rfl
        (refine vw_last rfl ?_; simp only [w2, go_sem, setCells, setIn])
        refine (n_then ?_)
        have hxy : x = y := by simpa using h
        refine ⟨i + 1, by omega, ⟨hlt, ?_⟩, ?_⟩
        · rw [List.take_add_one, List.take_add_one, hx, hy, htk, hxy]
        · (refine norm_to [] rfl ?_ ?_ <;> simp only [go_sem])
    · refine vw_exit (x_then (x_then (x_block (n_then ?_))))
      (refine vw_go rfl ?_; simp only [go_sem, setCells, setIn])
      simp only [decide_eq_false_iff_not] at h
      have h' : a = b := by
        have e1 : i = a.length := by omega
        rw [e1, List.take_length, hab, List.take_length] at htk
        exact htk
      rw [decide_eq_true h']
      exact vw_ret (e_ret (ret_of rfl rfl (by simp [RB]) rfl rfl))

/-! ### marks -/

def marks (k : Int) (n : Nat) : List ByteArray := (List.range n).map fun (j : Nat) => mt (k + (j : Int))
def mkS (k : Int) (j : Nat) : List T := sRow (mt (k + (j : Int)))
theorem mkS_rows (k : Int) (n : Nat) : (List.range n).map (mkS k) = (marks k n).map sRow := by simp [marks, mkS, List.map_map, Function.comp]

theorem runs_16 (l : List ByteArray) (k : Int) (hl : l.length ≤ 2 ^ 40) (h0 : 0 ≤ k) (h1 : k ≤ 2 ^ 60) :
    Runs Try.prog 16 [.one (.v (.list true 1 (l.map sRow))), .one (.v (.int .i64 k))] [.one (.v (.int .i64 (k + l.length)))] [(0, ⟨false, 1, (marks k l.length).map sRow, []⟩)] := by
  refine runs_tabB (tab := [(0, .al 0 [] 0 1 0 l.length), (1, .c (.int .i64 k))]) (rts := [(0, some ⟨false, 1, l.map sRow, []⟩)]) (n := 20) (k := 2) Try.func16 rfl rfl (by simp) rfl (fun t => ?_) rfl ?_
  · rcases t with _ | _ | t
    · simp [rvv, RT.vv, CT.vv, envOf, tabE_cons]
    · rfl
    · rfl
  (refine vw_go rfl ?_; simp only [go_sem, setCells, setIn])
  refine vw_seq ?_
  (refine vw_go rfl ?_; simp only [go_sem, setCells, setIn])
  refine vw_block ?_
  refine vw_loop_tab (α := Nat) (fun x => l.length - x) (fun x => ⟨tabE [(0, .al 0 [] 0 1 0 l.length), (1, .c (.int .i64 (k + x))), (5, .c (.int .i64 x))], tabS [(0, some ⟨false, 1, rowsW (mkS k) (l.map sRow) x, []⟩)], 2⟩)
    (fun x => x ≤ l.length) (x := 0) ?round ?h0 ?hn
  case h0 => exact Nat.zero_le _
  case hn =>
    (refine norm_to [(0, 0)] rfl ?_ ?_ <;> simp only [go_sem])
    · simp
    · simp [rowsW_zero]
  intro i hi
  refine vw_seq ?_
  (refine vw_go rfl ?_; simp only [go_sem, setCells, setIn])
  refine vw_cond (t := decide ((i : Int) < l.length)) rfl (fun h => ?_) (fun h => ?_)
  · refine vw_skip (n_then ?_)
    rcases get_or l i with ⟨x, hx, hlt⟩ | ⟨_, hge⟩
    case inr => simp only [decide_eq_true_eq] at h; omega
    have c1 : (0:Int) ≤ (i:Int) := by omega
    have c2 : (i:Int) < (l.length : Int) := by omega
    have hx' : (l.map sRow)[i]? = some (sRow x) := by rw [List.getElem?_map, hx]; rfl
    have hll : (l.map sRow).length = l.length := by simp
    have e1 : (rowsW (mkS k) (l.map sRow) i).length = l.length := by rw [rowsW_len (by omega), hll]
    have e2 : (rowsW (mkS k) (l.map sRow) i).getD i [] = [.str x] := rowsW_get hx'
    have e3 : (rowsW (mkS k) (l.map sRow) i).set i [.str (mt (k + i))] = rowsW (mkS k) (l.map sRow) (i + 1) := rowsW_set (by omega) rfl
    have w3 : IntKind.wrap .i64 (k + (i:Int) + 1) = k + ((i + 1 : Nat) : Int) := by rw [wrap_i64 (by omega) (by omega)]; omega
    refine vw_seq ?_
    refine vw_block ?_
    (refine vw_go rfl ?_; simp only [c1, c2, Int.toNat_natCast, go_sem, setCells, setIn])
    (refine ⟨_, _, call_rd [0] Try.func77 (runs_77 (k + i) (by omega) (by omega)) rfl rfl rfl rfl rfl rfl rfl rfl rfl rfl rfl rfl rfl, ?_⟩)
    simp only [runH, runX, c1, c2, Int.toNat_natCast, e1, e2, e3, hlt, go_sem, setCells, setIn]
    (refine vw_last rfl ?_; simp only [w3, go_sem, setCells, setIn])
    refine (n_block (n_then ?_))
    have w2 : IntKind.wrap .i64 ((i:Int) + 1) = ((i + 1 : Nat) : Int) := by rw [wrap_i64 (by omega) (by omega)]; rfl
    (refine vw_last rfl ?_; simp only [w2, go_sem, setCells, setIn])
    refine (n_then ?_)
    refine ⟨i + 1, by omega, hlt, ?_⟩
    (refine norm_to [(0, 0)] rfl ?_ ?_ <;> simp only [go_sem])
  · refine vw_exit (x_then (x_then (x_block (n_then ?_))))
    (refine vw_go rfl ?_; simp only [go_sem, setCells, setIn])
    simp only [decide_eq_false_iff_not] at h
    have : i = l.length := by omega
    subst this
    refine vw_ret (e_ret (ret_b rfl rfl (by simp [RB]) rfl rfl ⟨⟨by simp, _, rfl, rfl, rfl, ?_⟩, trivial⟩))
    have hll : (l.map sRow).length = l.length := by simp
    show rowsW (mkS k) (l.map sRow) l.length = _
    rw [← hll, rowsW_end, hll, mkS_rows]

end Go.Proofs.Ytppbonbghmdhhaa
