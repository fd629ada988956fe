/- Marks: their texts; lists of texts: size, copy, comparing, marking, and reading marks again. Numbers and texts as bytes: PutNum, GetNum, Sum, PutText, GetText. Op values: trees, and the walks of their size, their copy, their comparing (one; a slice). Printed by a program (tfun.py). -/
import Derived.Test.YtkijdbljnefeaaaGreatDoorPFIn
import Derived.Test.YtkijdbljnefeaaaGreatDoorPVBk
set_option linter.unusedSimpArgs false
set_option linter.unusedVariables false
namespace Go.Proofs.YtkijdbljnefeaaaGreatDoor
open Go.VM
set_option maxRecDepth 100000
attribute [local congr] vw_congr runV_congr runH_congr runW_congr runX_congr stuckV_congr stuckX_congr
theorem range1 : List.range 1 = [0] := rfl
def dig (k : Nat) : ByteArray := ⟨#[UInt8.ofNat (IntKind.wrap .u8 (IntKind.wrap .i64 (48 + (k : Int).tmod 10))).toNat]⟩
def mtL : Nat → Nat → ByteArray → ByteArray
  | 0, _, s => s
  | f + 1, k, s => if 0 < k then mtL f (k / 10) (dig k ++ s) else s
def mt (k : Int) : ByteArray := if k ≤ 0 then ⟨#[109, 48]⟩ else ⟨#[109]⟩ ++ mtL 64 k.toNat ⟨#[]⟩
def sRow (s : ByteArray) : List T := [.str s]
def zS : List T := [.str ⟨#[]⟩]
theorem sRow_r1 (x : ByteArray) : (sRow x).map T.toRO = sRow x := by simp [sRow]
theorem sRow_clean (l : List ByteArray) : cleanRs (l.map sRow) = true := clean_map (fun x => rfl) l
theorem sRow_noOwn (l : List ByteArray) : ((l.map sRow).all fun r => r.all plainT) = true := by
  simp [sRow,plainT]
def marks (k : Int) (n : Nat) : List ByteArray := (List.range n).map fun (j : Nat) => mt (k + (j : Int))
theorem runs_98 (l : List ByteArray) (hl : l.length ≤ 2 ^ 20) :
    Runs Tryz.prog 98 [.one (.v (.list false 1 (l.map sRow)))] [.one (.v (.list true 1 (l.map sRow)))] [] := by
  refine runs_tab (tab := [(0, .c (.list false 1 (l.map sRow)))]) (rts := []) (n := 8) (k := 1) Tryz.func98 rfl rfl (by simp) rfl (fun t => ?_) rfl ?_
  · rcases t with _ | t <;> rfl
  refine vw_go rfl ?_; simp only [go_sem,setCells,setIn]
  refine vw_seq ?_
  refine vw_nil rfl Tryz.underlying26 rfl rfl rfl ⟨_, rfl⟩ rfl rfl rfl (fun b hb => ?_)
  simp only [dstE_tab]
  refine vw_cond (t := b) rfl (fun h => ?_) (fun h => ?_)
  · (refine vw_go rfl ?_; simp only [go_sem,setCells,setIn])
    have : l = [] := by
      cases l with
      | nil => rfl
      | cons x l => exact absurd (hb (by simp)) (by rw [h]; decide)
    subst this
    exact vw_ret (r_then (e_ret (ret_by rfl rfl (by simp [RB]) rfl (by simp only [takeCs,takeC,go_sem,setCells,setIn]))))
  refine vw_skip (n_then ?_)
  have B : ¬ (l.length + 1) * (16 + 1) > bigRow := by simp only [bigRow]; omega
  refine vw_go rfl ?_; simp only [List.replicate_zero,List.flatten_nil,List.range_zero,sRow_noOwn,B,gt_iff_lt,go_sem,setCells,setIn]
  exact vw_ret (e_ret (ret_by rfl rfl (by simp [RB]) rfl (by simp only [takeCs,takeC,go_sem,setCells,setIn])))
end Go.Proofs.YtkijdbljnefeaaaGreatDoor
namespace Go.Proofs.YtkijdbljnefeaaaGreatDoor
open Go.VM Go
set_option maxRecDepth 100000
attribute [local congr] vw_congr runV_congr runH_congr runW_congr runX_congr stuckV_congr stuckX_congr
abbrev bRow (b : UInt8) : List T := [.int .u8 b.toNat]
theorem bRow_r1 (x : UInt8) : (bRow x).map T.toRO = bRow x := by simp
theorem bRow_comp : List.map T.toRO ∘ bRow = bRow := funext bRow_r1
theorem bRow_clean (l : List UInt8) : cleanRs (l.map bRow) = true := clean_map (fun x => rfl) l
theorem bRow_noOwn (l : List UInt8) : ((l.map bRow).all fun r => r.all plainT) = true := by
  rw [List.all_map, List.all_eq_true]; intro x _; rfl
theorem bytes_rows : ∀ l : List UInt8, (l.map bRow).mapM byteRow = some l
  | [] => rfl
  | x :: l => by
    rw [List.map_cons, List.mapM_cons, bytes_rows l]
    simp [byteRow]
theorem bytesV_map (l : List UInt8) : bytesV (l.map bRow) = some ⟨l.toArray⟩ := by rw [bytesV, bytes_rows]; rfl
theorem u8_wrap {n : Nat} (h : n < 256) : IntKind.wrap .u8 (n : Int) = ((UInt8.ofNat n).toNat : Int) := by
  have e : (UInt8.ofNat n).toNat = n := by simp; omega
  rw [e]
  have e2 : IntKind.wrap .u8 (n : Int) = (n : Int) % 256 := rfl
  rw [e2]; omega
/-- A number's bytes, the lowest first. -/
def putL (n : Nat) : List UInt8 := if h : 127 < n then UInt8.ofNat (n % 128 + 128) :: putL (n / 128) else [UInt8.ofNat n]
termination_by n
def putNum (n : Int) : List UInt8 := if inB n 0 1000000000 = true then putL n.toNat else []
theorem putL_more {n : Nat} (h : 127 < n) : putL n = UInt8.ofNat (n % 128 + 128) :: putL (n / 128) := by rw [putL, dif_pos h]
theorem putL_last {n : Nat} (h : ¬ 127 < n) : putL n = [UInt8.ofNat n] := by rw [putL, dif_neg h]
theorem runs_140 (n : Int) : Runs Tryz.prog 140 [.one (.v (.int .i64 n))] [.one (.v (.list true 1 ((putNum n).map bRow)))] [] := by
  refine runs_tab (tab := [(0, .c (.int .i64 n))]) (rts := []) (n := 25) (k := 1) Tryz.func140 rfl rfl (by simp) rfl (fun t => ?_) rfl ?_
  · rcases t with _ | t <;> rfl
  have rI := runs_26 n 0 1000000000
  refine vw_go rfl ?_; simp only [go_sem,setCells,setIn]
  refine vw_go rfl ?_; simp only [go_sem,setCells,setIn]
  refine vw_seq ?_
  refine vw_go rfl ?_; simp only [go_sem,setCells,setIn]
  refine ⟨_, _, call_rd [0, 0, 0] Tryz.func26 (rI) rfl rfl rfl rfl rfl rfl rfl rfl rfl rfl rfl rfl rfl, ?_⟩
  cases hb : inB n 0 1000000000
  · simp only [runH,runX,go_sem,setCells,setIn]
    refine vw_cond (t := true) rfl (fun _ => ?_) (fun h => nomatch h)
    refine vw_go rfl ?_; simp only [go_sem,setCells,setIn]
    rw [show putNum n = [] from by rw [putNum, hb]; rfl]
    exact vw_ret (r_then (e_ret (ret_by rfl rfl (by simp [RB]) rfl (by simp only [takeCs,takeC,go_sem,setCells,setIn]))))
  simp only [runH,runX,go_sem,setCells,setIn]
  refine vw_cond (t := false) rfl (fun h => nomatch h) (fun _ => ?_)
  refine vw_skip (n_then ?_)
  have hn : 0 ≤ n ∧ n ≤ 1000000000 := by simpa [inB] using hb
  obtain ⟨m, rfl⟩ : ∃ m : Nat, n = m := ⟨n.toNat, by omega⟩
  rw [show putNum (m : Int) = putL m from by rw [putNum, hb]; rfl]
  refine vw_seq ?_
  refine vw_block ?_
  refine vw_loop_tab (α := List UInt8 × Nat) (fun x => x.2) (fun x => ⟨tabE [(0, .c (.int .i64 x.2)), (3, .al 1 [] 0 1 0 x.1.length)], tabS [(1, some ⟨false, 1, x.1.map bRow, []⟩)], 2⟩)
    (fun x => x.2 ≤ 1000000000 ∧ x.1 ++ putL x.2 = putL m ∧ x.1.length + x.2 ≤ m) (x := ([], m)) ?round ?h0 ?hn
  case h0 => exact ⟨by show m ≤ 1000000000; omega, rfl, by simp⟩
  case hn =>
    refine norm_to [(65537, 1)] rfl ?_ ?_ <;> simp only [go_sem]
    · simp
  rintro ⟨out, m'⟩ ⟨h1, h2, h3⟩
  simp only at h1 h2 h3
  refine vw_seq ?_
  have B1 : ¬ (out.length + 1 + 1) * (1 + 1) > bigRow := by simp only [bigRow]; omega
  by_cases hc : (127 : Int) < (m' : Int)
  · (refine vw_go rfl ?_; simp only [hc,go_sem,setCells,setIn])
    refine vw_cond (t := true) rfl (fun _ => ?_) (fun h => nomatch h)
    refine vw_skip (n_then ?_)
    have e1 : (m' : Int).tmod 128 = ((m' % 128 : Nat) : Int) := by rw [Int.tmod_eq_emod_of_nonneg (by omega)]; omega
    have e2 : IntKind.wrap .i64 (((m' % 128 : Nat) : Int) + 128) = ((m' % 128 + 128 : Nat) : Int) := by rw [wrap_i64 (by omega) (by omega)]; omega
    have e3 : IntKind.wrap .u8 ((m' % 128 + 128 : Nat) : Int) = ((UInt8.ofNat (m' % 128 + 128)).toNat : Int) := u8_wrap (by omega)
    have e4 : IntKind.wrap .i64 ((m' : Int).tdiv 128) = ((m' / 128 : Nat) : Int) := by
      rw [Int.tdiv_eq_ediv_of_nonneg (by omega), wrap_i64 (by omega) (by omega)]; omega
    refine vw_block ?_
    have qt : (out.map bRow).take out.length = out.map bRow := by rw [List.take_of_length_le (by simp)]
    refine vw_go rfl ?_; simp only [e1,e2,e3,B1,range1,List.replicate_succ,List.replicate_zero,List.flatten_cons,List.flatten_nil,List.range_zero,gt_iff_lt,qt,List.length_append,go_sem,setCells,setIn]
    refine vw_last rfl ?_; simp only [e4,go_sem,setCells,setIn]
    refine (n_block (n_then ?_))
    rw [putL_more (by omega), ← List.singleton_append, ← List.append_assoc] at h2
    refine ⟨(out ++ [UInt8.ofNat (m' % 128 + 128)], m' / 128), by simp only; omega, ⟨by simp only; omega, h2, by simp; omega⟩, ?_⟩
    refine norm_to [(71682, 1)] rfl ?_ ?_ <;> simp only [go_sem]
    · simp
    · simp
  · (refine vw_go rfl ?_; simp only [hc,go_sem,setCells,setIn])
    refine vw_cond (t := false) rfl (fun h => nomatch h) (fun _ => ?_)
    refine vw_exit (x_then (x_then (x_block (n_then ?_))))
    have e3 : IntKind.wrap .u8 (m' : Int) = ((UInt8.ofNat m').toNat : Int) := u8_wrap (by omega)
    have qt : (out.map bRow ++ [[T.int .u8 ((UInt8.ofNat m').toNat : Int)]]).take (out.length + 1) = (out ++ [UInt8.ofNat m']).map bRow := by
      rw [List.take_of_length_le (by simp)]; simp
    have qt2 : (out.map bRow).take out.length = out.map bRow := by rw [List.take_of_length_le (by simp)]
    refine vw_go rfl ?_; simp only [e3,B1,range1,List.replicate_succ,List.replicate_zero,List.flatten_cons,List.flatten_nil,List.range_zero,gt_iff_lt,qt2,List.length_append,go_sem,setCells,setIn]
    rw [putL_last (by omega)] at h2
    rw [← h2]
    exact vw_ret (e_ret (ret_by rfl rfl (by simp [RB]) rfl (by simp only [takeCs,takeC,go_sem,qt,setCells,setIn]; simp)))
/-! ### sums -/
def sumL (l : List UInt8) (x : Nat) : Nat := l.foldl (fun x b => (31 * x + b.toNat) % 1000003) x
theorem sumL_cons (b : UInt8) (l : List UInt8) (x : Nat) : sumL (b :: l) x = sumL l ((31 * x + b.toNat) % 1000003) := rfl
theorem sumL_lt : ∀ (l : List UInt8) (x : Nat), x < 1000003 → sumL l x < 1000003
  | [], _, h => h
  | b :: l, x, _ => by rw [sumL_cons]; exact sumL_lt l _ (Nat.mod_lt _ (by decide))
def sumB (l : List UInt8) : Nat := sumL l 7
theorem sumB_lt (l : List UInt8) : sumB l < 1000003 := sumL_lt l 7 (by decide)
theorem sum_step {x : Nat} {b : UInt8} (hx : x < 1000003) : IntKind.wrap .i64 (31 * (x : Int)) = ((31 * x : Nat) : Int) ∧ IntKind.wrap .i64 ((b.toNat : Nat) : Int) = ((b.toNat : Nat) : Int) ∧
    IntKind.wrap .i64 (((31 * x : Nat) : Int) + ((b.toNat : Nat) : Int)) = ((31 * x + b.toNat : Nat) : Int) ∧ (((31 * x + b.toNat : Nat) : Int)).tmod 1000003 = (((31 * x + b.toNat) % 1000003 : Nat) : Int) := by
  have hb : b.toNat < 256 := b.toNat_lt
  refine ⟨?_, ?_, ?_, ?_⟩
  · rw [wrap_i64 (by omega) (by omega)]; omega
  · rw [wrap_i64 (by omega) (by omega)]
  · rw [wrap_i64 (by omega) (by omega)]; omega
  · rw [Int.tmod_eq_emod_of_nonneg (by omega)]; omega
theorem runs_142 (l : List UInt8) (hl : l.length < 2 ^ 62) : Runs Tryz.prog 142 [.one (.v (.list false 1 (l.map bRow)))] [.one (.v (.int .i64 (sumB l)))] [] := by
  refine runs_tab (tab := [(0, .c (.list false 1 (l.map bRow)))]) (rts := []) (n := 21) (k := 1) Tryz.func142 rfl rfl (by simp) rfl (fun t => ?_) rfl ?_
  · rcases t with _ | t <;> rfl
  refine vw_go rfl ?_; simp only [go_sem,setCells,setIn]
  refine vw_go rfl ?_; simp only [go_sem,setCells,setIn]
  refine vw_seq ?_
  refine vw_go rfl ?_; simp only [go_sem,setCells,setIn]
  refine vw_block ?_
  refine vw_loop_tab (α := Nat × Nat) (fun x => l.length - x.1) (fun x => ⟨tabE [(0, .c (.list false 1 (l.map bRow))), (3, .c (.int .i64 x.2)), (4, .c (.int .i64 x.1))], tabS [], 1⟩)
    (fun x => x.1 ≤ l.length ∧ x.2 < 1000003 ∧ sumL (l.drop x.1) x.2 = sumB l) (x := (0, 7)) ?round ?h0 ?hn
  case h0 => exact ⟨Nat.zero_le _, by decide, rfl⟩
  case hn =>
    refine norm_to [] rfl ?_ ?_ <;> simp only [go_sem]
    · rfl
  rintro ⟨i, x⟩ ⟨hi, hx, hm⟩
  simp only at hi hx hm
  refine vw_seq ?_
  refine vw_go rfl ?_; simp only [go_sem,setCells,setIn]
  refine vw_cond (t := decide ((i : Int) < l.length)) rfl (fun h => ?_) (fun h => ?_)
  · refine vw_skip (n_then ?_)
    rcases get_or l i with ⟨b, hb, hlt⟩ | ⟨_, hge⟩
    case inr => simp only [decide_eq_true_eq] at h; omega
    have c1 : (0:Int) ≤ (i:Int) := by omega
    have c2 : (i:Int) < (l.length : Int) := by omega
    obtain ⟨s1, s2, s3, s4⟩ := sum_step (x := x) (b := b) hx
    have w2 : IntKind.wrap .i64 ((i:Int) + 1) = ((i + 1 : Nat) : Int) := by rw [wrap_i64 (by omega) (by omega)]; rfl
    rw [drop_of hb, sumL_cons] at hm
    refine vw_seq ?_
    refine vw_block ?_
    refine vw_last rfl ?_; simp only [c1,c2,Int.toNat_natCast,getD_map_of hb,bRow,s1,s2,s3,s4,go_sem,setCells,setIn]
    refine (n_block (n_then ?_))
    refine vw_last rfl ?_; simp only [w2,go_sem,setCells,setIn]
    refine (n_then ?_)
    refine ⟨(i + 1, (31 * x + b.toNat) % 1000003), by simp only; omega, ⟨hlt, Nat.mod_lt _ (by decide), hm⟩, ?_⟩
    refine norm_to [] rfl ?_ ?_ <;> simp only [go_sem]
  · refine vw_exit (x_then (x_then (x_block (n_then ?_))))
    simp only [decide_eq_false_iff_not] at h
    have : i = l.length := by omega
    subst this
    rw [List.drop_length] at hm
    obtain rfl : x = sumB l := hm
    refine vw_go rfl ?_; simp only [go_sem,setCells,setIn]
    exact vw_ret (e_ret (ret_of rfl rfl (by simp [RB]) rfl rfl))
theorem runs_136 (l : List UInt8) (hl : l.length < 2 ^ 62) : Runs Tryz.prog 136 [.one (.v (.list false 1 (l.map bRow)))] [.one (.v (.int .i64 (sumB l)))] [] := by
  refine runs_tab (tab := [(0, .c (.list false 1 (l.map bRow)))]) (rts := []) (n := 20) (k := 1) Tryz.func136 rfl rfl (by simp) rfl (fun t => ?_) rfl ?_
  · rcases t with _ | t <;> rfl
  refine vw_go rfl ?_; simp only [go_sem,setCells,setIn]
  refine vw_go rfl ?_; simp only [go_sem,setCells,setIn]
  refine vw_seq ?_
  refine vw_go rfl ?_; simp only [go_sem,setCells,setIn]
  refine vw_block ?_
  refine vw_loop_tab (α := Nat × Nat) (fun x => l.length - x.1) (fun x => ⟨tabE [(3, .c (.int .i64 x.2)), (6, .c (.list false 1 (l.map bRow))), (7, .c (.int .i64 l.length)), (8, .c (.int .i64 x.1))], tabS [], 1⟩)
    (fun x => x.1 ≤ l.length ∧ x.2 < 1000003 ∧ sumL (l.drop x.1) x.2 = sumB l) (x := (0, 7)) ?round ?h0 ?hn
  case h0 => exact ⟨Nat.zero_le _, by decide, rfl⟩
  case hn =>
    refine norm_to [] rfl ?_ ?_ <;> simp only [go_sem]
    · rfl
  rintro ⟨i, x⟩ ⟨hi, hx, hm⟩
  simp only at hi hx hm
  refine vw_go rfl ?_; simp only [go_sem,setCells,setIn]
  refine vw_seq ?_
  refine vw_cond (t := decide ((i : Int) < l.length)) rfl (fun h => ?_) (fun h => ?_)
  · refine vw_skip (n_then ?_)
    rcases get_or l i with ⟨b, hb, hlt⟩ | ⟨_, hge⟩
    case inr => simp only [decide_eq_true_eq] at h; omega
    have c1 : (0:Int) ≤ (i:Int) := by omega
    have c2 : (i:Int) < (l.length : Int) := by omega
    obtain ⟨s1, s2, s3, s4⟩ := sum_step (x := x) (b := b) hx
    have w2 : IntKind.wrap .i64 ((i:Int) + 1) = ((i + 1 : Nat) : Int) := by rw [wrap_i64 (by omega) (by omega)]; rfl
    rw [drop_of hb, sumL_cons] at hm
    refine vw_seq ?_
    refine vw_block ?_
    refine vw_go rfl ?_; simp only [c1,c2,Int.toNat_natCast,getD_map_of hb,bRow,go_sem,setCells,setIn]
    refine vw_last rfl ?_; simp only [s1,s2,s3,s4,go_sem,setCells,setIn]
    refine (n_block (n_then ?_))
    refine vw_last rfl ?_; simp only [w2,go_sem,setCells,setIn]
    refine (n_then ?_)
    refine ⟨(i + 1, (31 * x + b.toNat) % 1000003), by simp only; omega, ⟨hlt, Nat.mod_lt _ (by decide), hm⟩, ?_⟩
    refine norm_to [] rfl ?_ ?_ <;> simp only [go_sem]
  · refine vw_exit (x_then (x_then (x_block (n_then ?_))))
    simp only [decide_eq_false_iff_not] at h
    have : i = l.length := by omega
    subst this
    rw [List.drop_length] at hm
    obtain rfl : x = sumB l := hm
    refine vw_go rfl ?_; simp only [go_sem,setCells,setIn]
    exact vw_ret (e_ret (ret_of rfl rfl (by simp [RB]) rfl rfl))
/-! ### numbers that are read -/
theorem or_add {n m c i : Nat} (hn : n < 2 ^ i) (hm : m = c * 2 ^ i) (hb : n + m < 2 ^ 63) : IntKind.wrap .i64 (((BitVec.ofInt 64 (n : Int) ||| BitVec.ofInt 64 (m : Int)).toNat : Nat) : Int) = ((n + m : Nat) : Int) := by
  have e : (BitVec.ofInt 64 (n : Int) ||| BitVec.ofInt 64 (m : Int)).toNat = n + m := by
    rw [BitVec.ofInt_natCast, BitVec.ofInt_natCast, BitVec.toNat_or, BitVec.toNat_ofNat, BitVec.toNat_ofNat, Nat.mod_eq_of_lt (by omega), Nat.mod_eq_of_lt (by omega), Nat.or_comm, hm, ← Nat.shiftLeft_eq, ← Nat.shiftLeft_add_eq_or_of_lt hn, Nat.add_comm]
  rw [e, wrap_i64 (by omega) (by omega)]
theorem and_mod {n : Nat} (hb : n < 2 ^ 63) : IntKind.wrap .i64 (((BitVec.ofInt 64 (n : Int) &&& BitVec.ofInt 64 127).toNat : Nat) : Int) = ((n % 128 : Nat) : Int) := by
  have e : (BitVec.ofInt 64 (n : Int) &&& BitVec.ofInt 64 127).toNat = n % 128 := by
    show (BitVec.ofInt 64 (n : Int) &&& BitVec.ofInt 64 ((127 : Nat) : Int)).toNat = n % 128
    rw [BitVec.ofInt_natCast, BitVec.ofInt_natCast, BitVec.toNat_and, BitVec.toNat_ofNat, BitVec.toNat_ofNat, Nat.mod_eq_of_lt (by omega)]
    exact Nat.and_two_pow_sub_one_eq_mod n 7
  rw [e, wrap_i64 (by omega) (by omega)]
theorem or_bin {n m c i : Nat} (hn : n < 2 ^ i) (hm : m = c * 2 ^ i) (hb : n + m < 2 ^ 63) : binV Tryz.prog .or 3 (.c (.int .i64 n)) (.c (.int .i64 m)) = some (.c (.int .i64 ((n + m : Nat) : Int))) := by
  rw [← or_add hn hm hb]; rfl
theorem and_bin {n : Nat} (hb : n < 2 ^ 63) : binV Tryz.prog .and 3 (.c (.int .i64 n)) (.c (.int .i64 127)) = some (.c (.int .i64 ((n % 128 : Nat) : Int))) := by
  rw [← and_mod hb]; rfl
theorem shl_mul {d k : Nat} (hd : d < 128) (hk : k < 5) : IntKind.wrap .i64 ((d : Int) * 2 ^ (min (7 * k) 64)) = ((d * 2 ^ (7 * k) : Nat) : Int) := by
  have e : min (7 * k) 64 = 7 * k := Nat.min_eq_left (by show 7 * k ≤ 64; omega)
  have hp : 2 ^ (7 * k) ≤ 2 ^ 28 := Nat.pow_le_pow_right (by decide) (by omega)
  have hq : d * 2 ^ (7 * k) < 128 * 2 ^ 28 := Nat.lt_of_lt_of_le (Nat.mul_lt_mul_of_pos_right hd (Nat.pow_pos (by decide))) (Nat.mul_le_mul_left _ hp)
  have e2 : (d : Int) * 2 ^ (7 * k) = ((d * 2 ^ (7 * k) : Nat) : Int) := by simp
  rw [e, e2, wrap_i64 (by omega) (by omega)]
/-- A number read: its bytes, how many were read already, what they make. -/
def getF : Nat → List UInt8 → Nat → Nat → Option (Nat × Nat)
  | 0, _, _, _ => none
  | _ + 1, [], _, _ => none
  | f + 1, d :: l, k, n =>
    if d.toNat < 128 then (if (0 < k ∧ d.toNat = 0) ∨ 1000000000 < n + d.toNat % 128 * 2 ^ (7 * k) then none else some (n + d.toNat % 128 * 2 ^ (7 * k), k + 1))
    else getF f l (k + 1) (n + d.toNat % 128 * 2 ^ (7 * k))
def resF (o : Option (Nat × Nat)) (a : Nat) : Int × Int × Bool := match o with | some p => (((p.1 : Nat) : Int), ((a + p.2 : Nat) : Int), true) | none => (0, 0, false)
def getNum (l : List UInt8) (at' : Int) : Int × Int × Bool := if 0 ≤ at' ∧ at' ≤ l.length then resF (getF 5 (l.drop at'.toNat) 0 0) at'.toNat else (0, 0, false)
theorem step_lt {n d k : Nat} (hn : n < 2 ^ (7 * k)) : n + d % 128 * 2 ^ (7 * k) < 2 ^ (7 * (k + 1)) := by
  have e : 2 ^ (7 * (k + 1)) = 128 * 2 ^ (7 * k) := by rw [show 7 * (k + 1) = 7 * k + 7 from by omega, Nat.pow_add, Nat.mul_comm]
  have hd : d % 128 ≤ 127 := by omega
  have := Nat.mul_le_mul_right (2 ^ (7 * k)) hd
  omega
theorem pow_le {k : Nat} (h : k ≤ 5) : 2 ^ (7 * k) ≤ 2 ^ 35 := Nat.pow_le_pow_right (by decide) (by omega)
theorem runs_106 (l : List UInt8) (hl : l.length < 2 ^ 62) (at' : Int) (R : Int × Int × Bool) (hR : R = getNum l at') : Runs Tryz.prog 106 [.one (.v (.list false 1 (l.map bRow))), .one (.v (.int .i64 at'))] [.one (.v (.int .i64 R.1)), .one (.v (.int .i64 R.2.1)), .one (.v (.bool R.2.2))] [] := by
  refine runs_tab (tab := [(0, .c (.list false 1 (l.map bRow))), (1, .c (.int .i64 at'))]) (rts := []) (n := 55) (k := 2) Tryz.func106 rfl rfl (by simp) rfl (fun t => ?_) rfl ?_
  · rcases t with _ | _ | t <;> rfl
  refine vw_go rfl ?_; simp only [go_sem,setCells,setIn]
  refine vw_go rfl ?_; simp only [go_sem,setCells,setIn]
  refine vw_seq ?_
  refine vw_go rfl ?_; simp only [go_sem,setCells,setIn]
  refine vw_block ?_
  by_cases hat : 0 ≤ at' ∧ at' ≤ l.length
  case neg =>
    obtain rfl : R = (0, 0, false) := by rw [hR, getNum, if_neg hat]
    refine vw_loop_tab (α := Unit) (fun x => 0) (fun x => ⟨tabE [(0, .c (.list false 1 (l.map bRow))), (1, .c (.int .i64 at')), (7, .c (.int .i64 0)), (8, .c (.int .i64 0))], tabS [], 2⟩) (fun x => True) (x := ()) ?roundA ?hA ?hnA
    case hA => trivial
    case hnA => (refine norm_to [] rfl ?_ ?_ <;> simp only [go_sem])
    rintro _ _
    refine vw_seq ?_
    refine vw_go rfl ?_; simp only [go_sem,setCells,setIn]
    refine vw_cond (t := true) rfl (fun _ => ?_) (fun h => nomatch h)
    refine vw_skip (n_then ?_)
    refine vw_seq ?_
    refine vw_block ?_
    refine vw_seq ?_
    have w0 : IntKind.wrap .i64 (l.length : Int) = (l.length : Int) := wrap_i64 (by omega) (by omega)
    by_cases h0 : at' < 0
    · (refine vw_go rfl ?_; simp only [h0,go_sem,setCells,setIn])
      refine vw_cond (t := true) rfl (fun _ => ?_) (fun h => nomatch h)
      refine vw_go rfl ?_; simp only [go_sem,setCells,setIn]
      exact vw_ret (r_then (r_block (r_then (r_then (r_block (r_then (e_ret (ret_of rfl rfl (by simp [RB]) rfl rfl))))))))
    · have h1 : (l.length : Int) ≤ at' := by omega
      refine vw_go rfl ?_; simp only [h0,w0,h1,Int.sub_zero,go_sem,setCells,setIn]
      refine vw_cond (t := true) rfl (fun _ => ?_) (fun h => nomatch h)
      refine vw_go rfl ?_; simp only [go_sem,setCells,setIn]
      exact vw_ret (r_then (r_block (r_then (r_then (r_block (r_then (e_ret (ret_of rfl rfl (by simp [RB]) rfl rfl))))))))
  obtain ⟨a, rfl⟩ : ∃ a : Nat, at' = a := ⟨at'.toNat, by omega⟩
  have ha : a ≤ l.length := by omega
  have hR' : resF (getF 5 (l.drop a) 0 0) a = R := by rw [hR, getNum, if_pos hat]; rfl
  refine vw_loop_tab (α := Nat × Nat) (fun x => 5 - x.1) (fun x => ⟨tabE [(0, .c (.list false 1 (l.map bRow))), (1, .c (.int .i64 a)), (7, .c (.int .i64 x.2)), (8, .c (.int .i64 x.1))], tabS [], 2⟩)
    (fun x => x.1 ≤ 5 ∧ x.2 < 2 ^ (7 * x.1) ∧ a + x.1 ≤ l.length ∧ resF (getF (5 - x.1) (l.drop (a + x.1)) x.1 x.2) a = R) (x := (0, 0)) ?round ?h0 ?hn
  case h0 => exact ⟨by decide, by decide, ha, hR'⟩
  case hn => (refine norm_to [] rfl ?_ ?_ <;> simp only [go_sem])
  rintro ⟨k, n⟩ ⟨hk, hn, hl', hm⟩
  simp only at hk hn hl' hm
  refine vw_seq ?_
  by_cases hk5 : (k : Int) < 5
  case neg =>
    refine vw_go rfl ?_; simp only [hk5,go_sem,setCells,setIn]
    refine vw_cond (t := false) rfl (fun h => nomatch h) (fun _ => ?_)
    refine vw_exit (x_then (x_then (x_block (n_then ?_))))
    obtain rfl : k = 5 := by omega
    obtain rfl : R = (0, 0, false) := hm.symm
    refine vw_go rfl ?_; simp only [go_sem,setCells,setIn]
    exact vw_ret (e_ret (ret_of rfl rfl (by simp [RB]) rfl rfl))
  refine vw_go rfl ?_; simp only [hk5,go_sem,setCells,setIn]
  refine vw_cond (t := true) rfl (fun _ => ?_) (fun h => nomatch h)
  refine vw_skip (n_then ?_)
  have w0 : IntKind.wrap .i64 ((l.length : Int) - (k : Int)) = (l.length : Int) - (k : Int) := wrap_i64 (by omega) (by omega)
  have c0 : ((a : Int) < 0) = False := eq_false (by omega)
  have e5 : 5 - k = (5 - (k + 1)) + 1 := by omega
  refine vw_seq ?_
  refine vw_block ?_
  refine vw_seq ?_
  rcases get_or l (a + k) with ⟨d, hd, hlt⟩ | ⟨hnone, hge⟩
  case inr =>
    have h1 : (l.length : Int) - (k : Int) ≤ (a : Int) := by omega
    obtain rfl : R = (0, 0, false) := by rw [← hm, e5, List.drop_of_length_le hge]; rfl
    refine vw_go rfl ?_; simp only [c0,w0,h1,go_sem,setCells,setIn]
    refine vw_cond (t := true) rfl (fun _ => ?_) (fun h => nomatch h)
    refine vw_go rfl ?_; simp only [go_sem,setCells,setIn]
    exact vw_ret (r_then (r_block (r_then (r_then (r_block (r_then (e_ret (ret_of rfl rfl (by simp [RB]) rfl rfl))))))))
  have h1 : ((l.length : Int) - (k : Int) ≤ (a : Int)) = False := eq_false (by omega)
  refine vw_go rfl ?_; simp only [c0,w0,h1,go_sem,setCells,setIn]
  refine vw_cond (t := false) rfl (fun h => nomatch h) (fun _ => ?_)
  refine vw_skip (n_then ?_)
  have hd256 : d.toNat < 256 := d.toNat_lt
  have hp := pow_le hk
  have hst := step_lt (d := d.toNat) hn
  have hp' := pow_le (k := k + 1) (by omega)
  have wa : IntKind.wrap .i64 ((a : Int) + (k : Int)) = ((a + k : Nat) : Int) := by rw [wrap_i64 (by omega) (by omega)]; omega
  have wb : IntKind.wrap .i64 (((a + k : Nat) : Int) + 1) = ((a + (k + 1) : Nat) : Int) := by rw [wrap_i64 (by omega) (by omega)]; omega
  have c1 : (0:Int) ≤ ((a + k : Nat) : Int) := by omega
  have c2 : ((a + k : Nat) : Int) < (l.length : Int) := by omega
  have v1 : IntKind.wrap .i64 ((d.toNat : Nat) : Int) = ((d.toNat : Nat) : Int) := wrap_i64 (by omega) (by omega)
  have v2 : ((d.toNat : Nat) : Int).tmod 128 = ((d.toNat % 128 : Nat) : Int) := by rw [Int.tmod_eq_emod_of_nonneg (by omega)]; omega
  have v3 : IntKind.wrap .i64 (7 * (k : Int)) = ((7 * k : Nat) : Int) := by rw [wrap_i64 (by omega) (by omega)]; omega
  have v4 : (((7 * k : Nat) : Int) < 0) = False := eq_false (by omega)
  have v5 := shl_mul (d := d.toNat % 128) (k := k) (by omega) (by omega)
  have v6 := or_bin (m := d.toNat % 128 * 2 ^ (7 * k)) hn rfl (by omega)
  simp only [go_sem,Option.some.injEq,VV.c.injEq,T.int.injEq,true_and] at v6
  have w2 : IntKind.wrap .i64 ((k:Int) + 1) = ((k + 1 : Nat) : Int) := by rw [wrap_i64 (by omega) (by omega)]; rfl
  refine vw_go rfl ?_; simp only [wa,c1,c2,Int.toNat_natCast,getD_map_of hd,bRow,v1,go_sem,setCells,setIn]
  refine vw_go rfl ?_; simp only [v2,v3,v4,Int.toNat_natCast,v5,v6,go_sem,setCells,setIn]
  rw [e5, drop_of hd, getF] at hm
  generalize hN : n + d.toNat % 128 * 2 ^ (7 * k) = N at hst hm
  by_cases h128 : d.toNat < 128
  · have g1 : ((d.toNat : Nat) : Int) < 128 := by omega
    rw [if_pos h128] at hm
    refine vw_go rfl ?_; simp only [g1,go_sem,setCells,setIn]
    refine vw_cond (t := true) rfl (fun _ => ?_) (fun h => nomatch h)
    refine vw_seq ?_
    by_cases hz : 0 < k ∧ d.toNat = 0
    · have g2 : (0 : Int) < (k : Int) := by omega
      have g3 : ((d.toNat : Nat) : Int) = 0 := by omega
      rw [if_pos (.inl hz)] at hm
      obtain rfl : R = (0, 0, false) := hm.symm
      refine vw_go rfl ?_; simp only [g2,g3,go_sem,setCells,setIn]
      refine vw_cond (t := true) rfl (fun _ => ?_) (fun h => nomatch h)
      refine vw_go rfl ?_; simp only [go_sem,setCells,setIn]
      exact vw_ret (r_then (r_block (r_then (r_then (r_block (r_then (e_ret (ret_of rfl rfl (by simp [RB]) rfl rfl))))))))
    by_cases hbig : 1000000000 < N
    · have g4 : (1000000000 : Int) < (N : Int) := by omega
      rw [if_pos (.inr hbig)] at hm
      obtain rfl : R = (0, 0, false) := hm.symm
      by_cases g2 : (0 : Int) < (k : Int)
      · have g3 : (((d.toNat : Nat) : Int) = 0) = False := eq_false (by omega)
        refine vw_go rfl ?_; simp only [g2,g3,g4,go_sem,setCells,setIn]
        refine vw_cond (t := true) rfl (fun _ => ?_) (fun h => nomatch h)
        refine vw_go rfl ?_; simp only [go_sem,setCells,setIn]
        exact vw_ret (r_then (r_block (r_then (r_then (r_block (r_then (e_ret (ret_of rfl rfl (by simp [RB]) rfl rfl))))))))
      · (refine vw_go rfl ?_; simp only [g2,g4,go_sem,setCells,setIn])
        refine vw_cond (t := true) rfl (fun _ => ?_) (fun h => nomatch h)
        refine vw_go rfl ?_; simp only [go_sem,setCells,setIn]
        exact vw_ret (r_then (r_block (r_then (r_then (r_block (r_then (e_ret (ret_of rfl rfl (by simp [RB]) rfl rfl))))))))
    rw [if_neg (by omega)] at hm
    have g4 : ((1000000000 : Int) < (N : Int)) = False := eq_false (by omega)
    obtain rfl : R = (((N : Nat) : Int), ((a + (k + 1) : Nat) : Int), true) := hm.symm
    by_cases g2 : (0 : Int) < (k : Int)
    · have g3 : (((d.toNat : Nat) : Int) = 0) = False := eq_false (by omega)
      refine vw_go rfl ?_; simp only [g2,g3,g4,go_sem,setCells,setIn]
      refine vw_cond (t := false) rfl (fun h => nomatch h) (fun _ => ?_)
      refine vw_skip (n_then ?_)
      refine vw_go rfl ?_; simp only [wa,wb,go_sem,setCells,setIn]
      exact vw_ret (r_block (r_then (r_then (r_block (r_then (e_ret (ret_of rfl rfl (by simp [RB]) rfl rfl)))))))
    · (refine vw_go rfl ?_; simp only [g2,g4,go_sem,setCells,setIn])
      refine vw_cond (t := false) rfl (fun h => nomatch h) (fun _ => ?_)
      refine vw_skip (n_then ?_)
      refine vw_go rfl ?_; simp only [wa,wb,go_sem,setCells,setIn]
      exact vw_ret (r_block (r_then (r_then (r_block (r_then (e_ret (ret_of rfl rfl (by simp [RB]) rfl rfl)))))))
  · have g1 : (((d.toNat : Nat) : Int) < 128) = False := eq_false (by omega)
    rw [if_neg h128] at hm
    refine vw_go rfl ?_; simp only [g1,go_sem,setCells,setIn]
    refine vw_cond (t := false) rfl (fun h => nomatch h) (fun _ => ?_)
    refine vw_skip (n_block (n_then ?_))
    refine vw_last rfl ?_; simp only [w2,go_sem,setCells,setIn]
    refine (n_then ?_)
    refine ⟨(k + 1, N), by simp only; omega, ⟨by simp only; omega, hst, by simp only; omega, hm⟩, ?_⟩
    refine norm_to [] rfl ?_ ?_ <;> simp only [go_sem]
theorem runs_137 (l : List UInt8) (hl : l.length < 2 ^ 62) (at' : Int) (R : Int × Int × Bool) (hR : R = getNum l at') : Runs Tryz.prog 137 [.one (.v (.list false 1 (l.map bRow))), .one (.v (.int .i64 at'))] [.one (.v (.int .i64 R.1)), .one (.v (.int .i64 R.2.1)), .one (.v (.bool R.2.2))] [] := by
  refine runs_tab (tab := [(0, .c (.list false 1 (l.map bRow))), (1, .c (.int .i64 at'))]) (rts := []) (n := 58) (k := 2) Tryz.func137 rfl rfl (by simp) rfl (fun t => ?_) rfl ?_
  · rcases t with _ | _ | t <;> rfl
  have rI := runs_24 at' 0 l.length
  refine vw_go rfl ?_; simp only [go_sem,setCells,setIn]
  refine vw_seq ?_
  refine vw_go rfl ?_; simp only [go_sem,setCells,setIn]
  refine ⟨_, _, call_rd [0, 0, 0] Tryz.func24 (rI) rfl rfl rfl rfl rfl rfl rfl rfl rfl rfl rfl rfl rfl, ?_⟩
  by_cases hat : 0 ≤ at' ∧ at' ≤ l.length
  case neg =>
    obtain rfl : R = (0, 0, false) := by rw [hR, getNum, if_neg hat]
    have hb : inB at' 0 l.length = false := by simpa [inB] using hat
    simp only [runH,runX,hb,go_sem,setCells,setIn]
    refine vw_cond (t := true) rfl (fun _ => ?_) (fun h => nomatch h)
    refine vw_go rfl ?_; simp only [go_sem,setCells,setIn]
    exact vw_ret (r_then (e_ret (ret_of rfl rfl (by simp [RB]) rfl rfl)))
  have hb : inB at' 0 l.length = true := by simpa [inB] using hat
  simp only [runH,runX,hb,go_sem,setCells,setIn]
  refine vw_cond (t := false) rfl (fun h => nomatch h) (fun _ => ?_)
  refine vw_skip (n_then ?_)
  obtain ⟨a, rfl⟩ : ∃ a : Nat, at' = a := ⟨at'.toNat, by omega⟩
  have ha : a ≤ l.length := by omega
  have hR' : resF (getF 5 (l.drop a) 0 0) a = R := by rw [hR, getNum, if_pos hat]; rfl
  refine vw_go rfl ?_; simp only [go_sem,setCells,setIn]
  refine vw_seq ?_
  refine vw_go rfl ?_; simp only [go_sem,setCells,setIn]
  refine vw_block ?_
  refine vw_loop_tab (α := Nat × Nat) (fun x => 5 - x.1) (fun x => ⟨tabE [(0, .c (.list false 1 (l.map bRow))), (1, .c (.int .i64 a)), (7, .c (.int .i64 x.2)), (8, .c (.int .i64 x.1))], tabS [], 2⟩)
    (fun x => x.1 ≤ 5 ∧ x.2 < 2 ^ (7 * x.1) ∧ a + x.1 ≤ l.length ∧ resF (getF (5 - x.1) (l.drop (a + x.1)) x.1 x.2) a = R) (x := (0, 0)) ?round ?h0 ?hn
  case h0 => exact ⟨by decide, by decide, ha, hR'⟩
  case hn => (refine norm_to [] rfl ?_ ?_ <;> simp only [go_sem])
  rintro ⟨k, n⟩ ⟨hk, hn, hl', hm⟩
  simp only at hk hn hl' hm
  have wa : IntKind.wrap .i64 ((a : Int) + (k : Int)) = ((a + k : Nat) : Int) := by rw [wrap_i64 (by omega) (by omega)]; omega
  have w2 : IntKind.wrap .i64 ((k:Int) + 1) = ((k + 1 : Nat) : Int) := by rw [wrap_i64 (by omega) (by omega)]; rfl
  refine vw_seq ?_
  by_cases hk5 : (k : Int) < 5
  case neg =>
    refine vw_go rfl ?_; simp only [hk5,go_sem,setCells,setIn]
    refine vw_cond (t := false) rfl (fun h => nomatch h) (fun _ => ?_)
    refine vw_exit (x_then (x_then (x_block (n_then ?_))))
    obtain rfl : k = 5 := by omega
    obtain rfl : R = (0, 0, false) := hm.symm
    refine vw_go rfl ?_; simp only [go_sem,setCells,setIn]
    exact vw_ret (e_ret (ret_of rfl rfl (by simp [RB]) rfl rfl))
  have e5 : 5 - k = (5 - (k + 1)) + 1 := by omega
  rcases get_or l (a + k) with ⟨d, hd, hlt⟩ | ⟨hnone, hge⟩
  case inr =>
    have h1 : (((a + k : Nat) : Int) < (l.length : Int)) = False := eq_false (by omega)
    obtain rfl : R = (0, 0, false) := by rw [← hm, e5, List.drop_of_length_le hge]; rfl
    refine vw_go rfl ?_; simp only [hk5,wa,h1,go_sem,setCells,setIn]
    refine vw_cond (t := false) rfl (fun h => nomatch h) (fun _ => ?_)
    refine vw_exit (x_then (x_then (x_block (n_then ?_))))
    refine vw_go rfl ?_; simp only [go_sem,setCells,setIn]
    exact vw_ret (e_ret (ret_of rfl rfl (by simp [RB]) rfl rfl))
  have c2 : ((a + k : Nat) : Int) < (l.length : Int) := by omega
  refine vw_go rfl ?_; simp only [hk5,wa,c2,go_sem,setCells,setIn]
  refine vw_cond (t := true) rfl (fun _ => ?_) (fun h => nomatch h)
  refine vw_skip (n_then ?_)
  have hd256 : d.toNat < 256 := d.toNat_lt
  have hp := pow_le hk
  have hst := step_lt (d := d.toNat) hn
  have hp' := pow_le (k := k + 1) (by omega)
  have wb : IntKind.wrap .i64 (((a + k : Nat) : Int) + 1) = ((a + (k + 1) : Nat) : Int) := by rw [wrap_i64 (by omega) (by omega)]; omega
  have c1 : (0:Int) ≤ ((a + k : Nat) : Int) := by omega
  have v1 : IntKind.wrap .i64 ((d.toNat : Nat) : Int) = ((d.toNat : Nat) : Int) := wrap_i64 (by omega) (by omega)
  have v2 := and_bin (n := d.toNat) (by omega)
  simp only [go_sem,Option.some.injEq,VV.c.injEq,T.int.injEq,true_and] at v2
  have v3 : IntKind.wrap .i64 (7 * (k : Int)) = ((7 * k : Nat) : Int) := by rw [wrap_i64 (by omega) (by omega)]; omega
  have v4 : (((7 * k : Nat) : Int) < 0) = False := eq_false (by omega)
  have v5 := shl_mul (d := d.toNat % 128) (k := k) (by omega) (by omega)
  have v6 := or_bin (m := d.toNat % 128 * 2 ^ (7 * k)) hn rfl (by omega)
  simp only [go_sem,Option.some.injEq,VV.c.injEq,T.int.injEq,true_and] at v6
  refine vw_seq ?_
  refine vw_block ?_
  refine vw_go rfl ?_; simp only [wa,c1,c2,Int.toNat_natCast,getD_map_of hd,bRow,v1,go_sem,setCells,setIn]
  refine vw_go rfl ?_; simp only [v2,v3,v4,Int.toNat_natCast,v5,v6,go_sem,setCells,setIn]
  rw [e5, drop_of hd, getF] at hm
  generalize hN : n + d.toNat % 128 * 2 ^ (7 * k) = N at hst hm
  refine vw_seq ?_
  by_cases h128 : d.toNat < 128
  · have g1 : ((127 : Int) < ((d.toNat : Nat) : Int)) = False := eq_false (by omega)
    rw [if_pos h128] at hm
    refine vw_go rfl ?_; simp only [g1,go_sem,setCells,setIn]
    refine vw_cond (t := false) rfl (fun h => nomatch h) (fun _ => ?_)
    refine vw_skip (n_then ?_)
    refine vw_seq ?_
    by_cases hz : 0 < k ∧ d.toNat = 0
    · have g2 : (0 : Int) < (k : Int) := by omega
      have g3 : ((d.toNat : Nat) : Int) = 0 := by omega
      rw [if_pos (.inl hz)] at hm
      obtain rfl : R = (0, 0, false) := hm.symm
      refine vw_go rfl ?_; simp only [g2,g3,go_sem,setCells,setIn]
      refine vw_cond (t := true) rfl (fun _ => ?_) (fun h => nomatch h)
      refine vw_go rfl ?_; simp only [go_sem,setCells,setIn]
      exact vw_ret (r_then (r_block (r_then (r_then (r_block (r_then (e_ret (ret_of rfl rfl (by simp [RB]) rfl rfl))))))))
    by_cases hbig : 1000000000 < N
    · have g4 : (1000000000 : Int) < (N : Int) := by omega
      rw [if_pos (.inr hbig)] at hm
      obtain rfl : R = (0, 0, false) := hm.symm
      by_cases g3 : ((d.toNat : Nat) : Int) = 0
      · have g2 : ((0 : Int) < (k : Int)) = False := eq_false (by omega)
        refine vw_go rfl ?_; simp only [g2,g3,g4,go_sem,setCells,setIn]
        refine vw_cond (t := true) rfl (fun _ => ?_) (fun h => nomatch h)
        refine vw_go rfl ?_; simp only [go_sem,setCells,setIn]
        exact vw_ret (r_then (r_block (r_then (r_then (r_block (r_then (e_ret (ret_of rfl rfl (by simp [RB]) rfl rfl))))))))
      · (refine vw_go rfl ?_; simp only [g3,g4,go_sem,setCells,setIn])
        refine vw_cond (t := true) rfl (fun _ => ?_) (fun h => nomatch h)
        refine vw_go rfl ?_; simp only [go_sem,setCells,setIn]
        exact vw_ret (r_then (r_block (r_then (r_then (r_block (r_then (e_ret (ret_of rfl rfl (by simp [RB]) rfl rfl))))))))
    rw [if_neg (by omega)] at hm
    have g4 : ((1000000000 : Int) < (N : Int)) = False := eq_false (by omega)
    obtain rfl : R = (((N : Nat) : Int), ((a + (k + 1) : Nat) : Int), true) := hm.symm
    by_cases g3 : ((d.toNat : Nat) : Int) = 0
    · have g2 : ((0 : Int) < (k : Int)) = False := eq_false (by omega)
      refine vw_go rfl ?_; simp only [g2,g3,g4,go_sem,setCells,setIn]
      refine vw_cond (t := false) rfl (fun h => nomatch h) (fun _ => ?_)
      refine vw_skip (n_then ?_)
      refine vw_go rfl ?_; simp only [wa,wb,go_sem,setCells,setIn]
      exact vw_ret (r_block (r_then (r_then (r_block (r_then (e_ret (ret_of rfl rfl (by simp [RB]) rfl rfl)))))))
    · (refine vw_go rfl ?_; simp only [g3,g4,go_sem,setCells,setIn])
      refine vw_cond (t := false) rfl (fun h => nomatch h) (fun _ => ?_)
      refine vw_skip (n_then ?_)
      refine vw_go rfl ?_; simp only [wa,wb,go_sem,setCells,setIn]
      exact vw_ret (r_block (r_then (r_then (r_block (r_then (e_ret (ret_of rfl rfl (by simp [RB]) rfl rfl)))))))
  · have g1 : (127 : Int) < ((d.toNat : Nat) : Int) := by omega
    rw [if_neg h128] at hm
    refine vw_go rfl ?_; simp only [g1,go_sem,setCells,setIn]
    refine vw_cond (t := true) rfl (fun _ => ?_) (fun h => nomatch h)
    refine vw_exit (x_then (x_block (n_then ?_)))
    refine vw_last rfl ?_; simp only [w2,go_sem,setCells,setIn]
    refine (n_then ?_)
    refine ⟨(k + 1, N), by simp only; omega, ⟨by simp only; omega, hst, by simp only; omega, hm⟩, ?_⟩
    refine norm_to [] rfl ?_ ?_ <;> simp only [go_sem]
end Go.Proofs.YtkijdbljnefeaaaGreatDoor
namespace Go.Proofs.YtkijdbljnefeaaaGreatDoor
open Go.VM
set_option maxRecDepth 100000
attribute [local congr] vw_congr runV_congr runH_congr runW_congr runX_congr stuckV_congr stuckX_congr
structure OpV where
  kind : Int
  path : ByteArray
  to : ByteArray
  data : ByteArray
  deriving DecidableEq
def OpV.ok (x : OpV) : Prop := x.path.size < 2 ^ 63 ∧ x.to.size < 2 ^ 63 ∧ x.data.size < 2 ^ 63
end Go.Proofs.YtkijdbljnefeaaaGreatDoor
