/- Numbers and texts as bytes: PutNum, GetNum, Sum, PutText, GetText. -/
import Derived.Test.YtplnflkabpcaaaaDoorFIn
import Derived.Test.YtplnflkabpcaaaaDoorFMark
namespace Go.Proofs.YtplnflkabpcaaaaDoor
open Go.VM Go
set_option maxRecDepth 100000
set_option linter.unusedSimpArgs false
set_option linter.unusedVariables false
attribute [local congr] vw_congr runV_congr runH_congr runW_congr runX_congr

abbrev bRow (b : UInt8) : List T := [.int .u8 b.toNat]
theorem bRow_r1 (x : UInt8) : (bRow x).map T.toRO = bRow x := by simp
theorem bRow_comp : List.map T.toRO ∘ bRow = bRow := funext bRow_r1
theorem bRow_clean (l : List UInt8) : cleanRs (l.map bRow) = true := clean_map (fun x => rfl) l
theorem bRow_noOwn (l : List UInt8) : ((l.map bRow).all fun r => r.all plainT) = true := by
  rw [List.all_map, List.all_eq_true]; intro x _; rfl
theorem bytes_rows : ∀ l : List UInt8, (l.map bRow).mapM byteRow = some l
  | [] => rfl
  | x :: l => by
    rw [List.map_cons, List.mapM_cons, bytes_rows l]
    simp [byteRow]
theorem bytesV_map (l : List UInt8) : bytesV (l.map bRow) = some ⟨l.toArray⟩ := by rw [bytesV, bytes_rows]; rfl
theorem strRows_map (s : ByteArray) : strRows s = s.data.toList.map bRow := rfl
theorem u8_wrap {n : Nat} (h : n < 256) : IntKind.wrap .u8 (n : Int) = ((UInt8.ofNat n).toNat : Int) := by
  have e : (UInt8.ofNat n).toNat = n := by simp; omega
  rw [e]
  have e2 : IntKind.wrap .u8 (n : Int) = (n : Int) % 256 := rfl
  rw [e2]; omega

/-- A number's bytes, the lowest first. -/
def putL (n : Nat) : List UInt8 := if h : 127 < n then UInt8.ofNat (n % 128 + 128) :: putL (n / 128) else [UInt8.ofNat n]
termination_by n
def putNum (n : Int) : List UInt8 := if inB n 0 1000000000 = true then putL n.toNat else []
theorem putL_more {n : Nat} (h : 127 < n) : putL n = UInt8.ofNat (n % 128 + 128) :: putL (n / 128) := by rw [putL, dif_pos h]
theorem putL_last {n : Nat} (h : ¬ 127 < n) : putL n = [UInt8.ofNat n] := by rw [putL, dif_neg h]
theorem putL_len (n : Nat) : (putL n).length ≤ n + 1 := by
  induction n using Nat.strongRecOn with
  | _ n ih =>
    by_cases h : 127 < n
    · rw [putL_more h, List.length_cons]
      have := ih (n / 128) (by omega)
      omega
    · rw [putL_last h]; simp

def sumL (l : List UInt8) (x : Nat) : Nat := l.foldl (fun x b => (31 * x + b.toNat) % 1000003) x
theorem sumL_cons (b : UInt8) (l : List UInt8) (x : Nat) : sumL (b :: l) x = sumL l ((31 * x + b.toNat) % 1000003) := rfl
theorem sumL_lt : ∀ (l : List UInt8) (x : Nat), x < 1000003 → sumL l x < 1000003
  | [], _, h => h
  | b :: l, x, _ => by rw [sumL_cons]; exact sumL_lt l _ (Nat.mod_lt _ (by decide))
def sumB (l : List UInt8) : Nat := sumL l 7
theorem sumB_lt (l : List UInt8) : sumB l < 1000003 := sumL_lt l 7 (by decide)
theorem sum_step {x : Nat} {b : UInt8} (hx : x < 1000003) : IntKind.wrap .i64 (31 * (x : Int)) = ((31 * x : Nat) : Int) ∧ IntKind.wrap .i64 ((b.toNat : Nat) : Int) = ((b.toNat : Nat) : Int) ∧
    IntKind.wrap .i64 (((31 * x : Nat) : Int) + ((b.toNat : Nat) : Int)) = ((31 * x + b.toNat : Nat) : Int) ∧ (((31 * x + b.toNat : Nat) : Int)).tmod 1000003 = (((31 * x + b.toNat) % 1000003 : Nat) : Int) := by
  have hb : b.toNat < 256 := b.toNat_lt
  refine ⟨?_, ?_, ?_, ?_⟩
  · rw [wrap_i64 (by omega) (by omega)]; omega
  · rw [wrap_i64 (by omega) (by omega)]
  · rw [wrap_i64 (by omega) (by omega)]; omega
  · rw [Int.tmod_eq_emod_of_nonneg (by omega)]; omega

theorem or_add {n m c i : Nat} (hn : n < 2 ^ i) (hm : m = c * 2 ^ i) (hb : n + m < 2 ^ 63) : IntKind.wrap .i64 (((BitVec.ofInt 64 (n : Int) ||| BitVec.ofInt 64 (m : Int)).toNat : Nat) : Int) = ((n + m : Nat) : Int) := by
  have e : (BitVec.ofInt 64 (n : Int) ||| BitVec.ofInt 64 (m : Int)).toNat = n + m := by
    rw [BitVec.ofInt_natCast, BitVec.ofInt_natCast, BitVec.toNat_or, BitVec.toNat_ofNat, BitVec.toNat_ofNat, Nat.mod_eq_of_lt (by omega), Nat.mod_eq_of_lt (by omega), Nat.or_comm, hm, ← Nat.shiftLeft_eq, ← Nat.shiftLeft_add_eq_or_of_lt hn, Nat.add_comm]
  rw [e, wrap_i64 (by omega) (by omega)]
theorem and_mod {n : Nat} (hb : n < 2 ^ 63) : IntKind.wrap .i64 (((BitVec.ofInt 64 (n : Int) &&& BitVec.ofInt 64 127).toNat : Nat) : Int) = ((n % 128 : Nat) : Int) := by
  have e : (BitVec.ofInt 64 (n : Int) &&& BitVec.ofInt 64 127).toNat = n % 128 := by
    show (BitVec.ofInt 64 (n : Int) &&& BitVec.ofInt 64 ((127 : Nat) : Int)).toNat = n % 128
    rw [BitVec.ofInt_natCast, BitVec.ofInt_natCast, BitVec.toNat_and, BitVec.toNat_ofNat, BitVec.toNat_ofNat, Nat.mod_eq_of_lt (by omega)]
    exact Nat.and_two_pow_sub_one_eq_mod n 7
  rw [e, wrap_i64 (by omega) (by omega)]
theorem or_bin {n m c i : Nat} (hn : n < 2 ^ i) (hm : m = c * 2 ^ i) (hb : n + m < 2 ^ 63) : binV Tryd.prog .or 3 (.c (.int .i64 n)) (.c (.int .i64 m)) = some (.c (.int .i64 ((n + m : Nat) : Int))) := by
  rw [← or_add hn hm hb]; rfl
theorem and_bin {n : Nat} (hb : n < 2 ^ 63) : binV Tryd.prog .and 3 (.c (.int .i64 n)) (.c (.int .i64 127)) = some (.c (.int .i64 ((n % 128 : Nat) : Int))) := by
  rw [← and_mod hb]; rfl
theorem shl_mul {d k : Nat} (hd : d < 128) (hk : k < 5) : IntKind.wrap .i64 ((d : Int) * 2 ^ (min (7 * k) 64)) = ((d * 2 ^ (7 * k) : Nat) : Int) := by
  have e : min (7 * k) 64 = 7 * k := Nat.min_eq_left (by show 7 * k ≤ 64; omega)
  have hp : 2 ^ (7 * k) ≤ 2 ^ 28 := Nat.pow_le_pow_right (by decide) (by omega)
  have hq : d * 2 ^ (7 * k) < 128 * 2 ^ 28 := Nat.lt_of_lt_of_le (Nat.mul_lt_mul_of_pos_right hd (Nat.pow_pos (by decide))) (Nat.mul_le_mul_left _ hp)
  have e2 : (d : Int) * 2 ^ (7 * k) = ((d * 2 ^ (7 * k) : Nat) : Int) := by simp
  rw [e, e2, wrap_i64 (by omega) (by omega)]

/-- A number read: its bytes, how many were read already, what they make. -/
def getF : Nat → List UInt8 → Nat → Nat → Option (Nat × Nat)
  | 0, _, _, _ => none
  | _ + 1, [], _, _ => none
  | f + 1, d :: l, k, n =>
    if d.toNat < 128 then (if (0 < k ∧ d.toNat = 0) ∨ 1000000000 < n + d.toNat % 128 * 2 ^ (7 * k) then none else some (n + d.toNat % 128 * 2 ^ (7 * k), k + 1))
    else getF f l (k + 1) (n + d.toNat % 128 * 2 ^ (7 * k))
def resF (o : Option (Nat × Nat)) (a : Nat) : Int × Int × Bool := match o with | some p => (((p.1 : Nat) : Int), ((a + p.2 : Nat) : Int), true) | none => (0, 0, false)
def getNum (l : List UInt8) (at' : Int) : Int × Int × Bool := if 0 ≤ at' ∧ at' ≤ l.length then resF (getF 5 (l.drop at'.toNat) 0 0) at'.toNat else (0, 0, false)
theorem step_lt {n d k : Nat} (hn : n < 2 ^ (7 * k)) : n + d % 128 * 2 ^ (7 * k) < 2 ^ (7 * (k + 1)) := by
  have e : 2 ^ (7 * (k + 1)) = 128 * 2 ^ (7 * k) := by rw [show 7 * (k + 1) = 7 * k + 7 from by omega, Nat.pow_add, Nat.mul_comm]
  have hd : d % 128 ≤ 127 := by omega
  have := Nat.mul_le_mul_right (2 ^ (7 * k)) hd
  omega
theorem pow_le {k : Nat} (h : k ≤ 5) : 2 ^ (7 * k) ≤ 2 ^ 35 := Nat.pow_le_pow_right (by decide) (by omega)

end Go.Proofs.YtplnflkabpcaaaaDoor
