/- Marks: their texts; lists of texts: size, copy, comparing, marking, and reading marks again. The library's IndexFunc, ContainsFunc, Index, Contains, Clone, Equal of texts and of numbers. Printed by slf.py. A number between two numbers. Numbers and texts as bytes: PutNum, GetNum, Sum, PutText, GetText. Names: NameOk of both. Regions of open order with many operations: what is ahead of each given as a list, and checked. -/
import Derived.Test.YtoenfbbadfcfpaaGreatDoorPFBase
import Derived.Test.YtoenfbbadfcfpaaGreatDoorPVBk
namespace Go.Proofs.YtoenfbbadfcfpaaGreatDoor
open Go.VM
set_option maxRecDepth 100000
set_option linter.unusedSimpArgs false
set_option linter.unusedVariables false
attribute [local congr] vw_congr runV_congr runH_congr runW_congr runX_congr stuckV_congr stuckX_congr

theorem range1 : List.range 1 = [0] := rfl

def dig (k : Nat) : ByteArray := ⟨#[UInt8.ofNat (IntKind.wrap .u8 (IntKind.wrap .i64 (48 + (k : Int).tmod 10))).toNat]⟩
def mtL : Nat → Nat → ByteArray → ByteArray
  | 0, _, s => s
  | f + 1, k, s => if 0 < k then mtL f (k / 10) (dig k ++ s) else s
def mt (k : Int) : ByteArray := if k ≤ 0 then ⟨#[109, 48]⟩ else ⟨#[109]⟩ ++ mtL 64 k.toNat ⟨#[]⟩

/-! ### lists of texts -/

def sRow (s : ByteArray) : List T := [.str s]
def zS : List T := [.str ⟨#[]⟩]
theorem sRow_r1 (x : ByteArray) : (sRow x).map T.toRO = sRow x := by simp [sRow]
theorem sRow_clean (l : List ByteArray) : cleanRs (l.map sRow) = true := clean_map (fun x => rfl) l
theorem sRow_noOwn (l : List ByteArray) : ((l.map sRow).all fun r => r.all plainT) = true := by
  simp [sRow, plainT]

def marks (k : Int) (n : Nat) : List ByteArray := (List.range n).map fun (j : Nat) => mt (k + (j : Int))
end Go.Proofs.YtoenfbbadfcfpaaGreatDoor
namespace Go.Proofs.YtoenfbbadfcfpaaGreatDoor
open Go.VM Go
set_option maxRecDepth 100000
set_option linter.unusedSimpArgs false
set_option linter.unusedVariables false
attribute [local congr] vw_congr runV_congr runH_congr runW_congr runX_congr stuckV_congr stuckX_congr
abbrev nRow (n : Int) : List T := [.int .i64 n]
theorem nRow_r1 (x : Int) : (nRow x).map T.toRO = nRow x := by simp
theorem nRow_comp : List.map T.toRO ∘ nRow = nRow := funext nRow_r1
theorem sRow_comp : List.map T.toRO ∘ sRow = sRow := funext sRow_r1
theorem nRow_clean (l : List Int) : cleanRs (l.map nRow) = true := clean_map (fun x => rfl) l
theorem sRow_fine (H : Value → Nat → List (List T) → Prop) (l : List ByteArray) : fineRs H (l.map sRow) = True := eq_true (fineRs_of (sRow_clean l))

theorem runs_112 (l : List ByteArray) (hl : l.length < 2 ^ 63) (f : Nat) (fn : Func) (p : ByteArray → Bool) (hf : Tryz.prog.funcs[f]? = some fn) (hbody : fn.body.isNone = false) (hname : (fn.name == "runtime.NumGoroutine") = false)
    (hp : ∀ x ∈ l, Runs Tryz.prog f [.one (.v (.str x))] [.one (.v (.bool (p x)))] []) :
    Runs Tryz.prog 112 [.one (.v (.list false 1 (l.map sRow))), .one (.fn f [])] [.one (.v (.int .i64 (idxOf p l 0)))] [] := by
  refine runs_tab (tab := [(0, .c (.list false 1 (l.map sRow))), (1, .fn f [])]) (rts := []) (n := 19) (k := 2) Tryz.func112 rfl rfl (by simp) rfl (fun t => ?_) rfl ?_
  · rcases t with _ | _ | t <;> rfl
  (refine vw_go rfl ?_; simp only [go_sem, setCells, setIn])
  refine vw_seq ?_
  (refine vw_go rfl ?_; simp only [go_sem, setCells, setIn])
  refine vw_block ?_
  refine vw_loop_tab (α := Nat) (fun x => l.length - x) (fun x => ⟨tabE [(0, .c (.list false 1 (l.map sRow))), (1, .fn f []), (7, .c (.int .i64 l.length)), (8, .c (.int .i64 x))], tabS [], 2⟩)
    (fun x => x ≤ l.length ∧ idxOf p (l.drop x) x = idxOf p l 0) (x := 0) ?round ?h0 ?hn
  case h0 => exact ⟨Nat.zero_le _, rfl⟩
  case hn => (refine norm_to [] rfl ?_ ?_ <;> simp only [go_sem])
  rintro i ⟨hi, hm⟩
  (refine vw_go rfl ?_; simp only [go_sem, setCells, setIn])
  refine vw_seq ?_
  refine vw_cond (t := decide ((i : Int) < l.length)) rfl (fun h => ?_) (fun h => ?_)
  · refine vw_skip (n_then ?_)
    rcases get_or l i with ⟨x, hx, hlt⟩ | ⟨_, hge⟩
    case inr => simp only [decide_eq_true_eq] at h; omega
    have c1 : (0:Int) ≤ (i:Int) := by omega
    have c2 : (i:Int) < (l.length : Int) := by omega
    rw [drop_of hx] at hm
    refine vw_seq ?_
    refine vw_block ?_
    (refine vw_go rfl ?_; simp only [go_sem, setCells, setIn])
    (refine vw_go rfl ?_; simp only [c1, c2, Int.toNat_natCast, getD_map_of hx, sRow, go_sem, setCells, setIn])
    refine ⟨_, _, call_rd [0] hf (hp x (List.mem_of_getElem? hx)) rfl rfl rfl hbody hname rfl rfl rfl rfl rfl rfl rfl rfl, ?_⟩
    simp only [runH, runX, go_sem, setCells, setIn]
    refine vw_cond (t := p x) rfl (fun h => ?_) (fun h => ?_)
    · (refine vw_go rfl ?_; simp only [go_sem, setCells, setIn])
      simp only [idxOf, h, if_true] at hm
      rw [← hm]
      exact vw_ret (r_block (r_then (r_then (r_block (r_then (e_ret (ret_of rfl rfl (by simp [RB]) rfl rfl)))))))
    · refine vw_skip (n_block (n_then ?_))
      have w2 : IntKind.wrap .i64 ((i:Int) + 1) = ((i + 1 : Nat) : Int) := by rw [wrap_i64 (by omega) (by omega)]; rfl
      (refine vw_last rfl ?_; simp only [w2, go_sem, setCells, setIn])
      refine (n_then ?_)
      simp only [idxOf, h, Bool.false_eq_true, if_false] at hm
      refine ⟨i + 1, by omega, ⟨hlt, hm⟩, ?_⟩
      (refine norm_to [] rfl ?_ ?_ <;> simp only [go_sem])
  · refine vw_exit (x_then (x_then (x_block (n_then ?_))))
    (refine vw_go rfl ?_; simp only [go_sem, setCells, setIn])
    simp only [decide_eq_false_iff_not] at h
    have : i = l.length := by omega
    subst this
    simp only [List.drop_length, idxOf] at hm
    rw [← hm]
    exact vw_ret (e_ret (ret_of rfl rfl (by simp [RB]) rfl rfl))

theorem runs_93 (l : List ByteArray) (hl : l.length < 2 ^ 63) (f : Nat) (fn : Func) (p : ByteArray → Bool) (hf : Tryz.prog.funcs[f]? = some fn) (hbody : fn.body.isNone = false) (hname : (fn.name == "runtime.NumGoroutine") = false)
    (hp : ∀ x ∈ l, Runs Tryz.prog f [.one (.v (.str x))] [.one (.v (.bool (p x)))] []) :
    Runs Tryz.prog 93 [.one (.v (.list false 1 (l.map sRow))), .one (.fn f [])] [.one (.v (.bool (l.any p)))] [] := by
  refine runs_tab (tab := [(0, .c (.list false 1 (l.map sRow))), (1, .fn f [])]) (rts := []) (n := 9) (k := 2) Tryz.func93 rfl rfl (by simp) rfl (fun t => ?_) rfl ?_
  · rcases t with _ | _ | t <;> rfl
  (refine vw_go rfl ?_; simp only [go_sem, setCells, setIn])
  (refine vw_go rfl ?_; simp only [go_sem, setCells, setIn])
  (refine ⟨_, _, call_rd [0, 0] Tryz.func112 (runs_112 l hl f fn p hf hbody hname hp) rfl rfl rfl rfl rfl rfl rfl rfl (by simp [rcells, RT.cells, sRow_r1]) rfl rfl rfl rfl, ?_⟩)
  simp only [runH, runX, idxOf_any, go_sem, setCells, setIn]
  exact vw_ret (e_ret (ret_of rfl rfl (by simp [RB]) rfl rfl))

theorem runs_117 (l : List ByteArray) (hl : l.length < 2 ^ 63) (y : ByteArray) :
    Runs Tryz.prog 117 [.one (.v (.list false 1 (l.map sRow))), .one (.v (.str y))] [.one (.v (.int .i64 (idxOf (fun x => decide (y = x)) l 0)))] [] := by
  refine runs_tab (tab := [(0, .c (.list false 1 (l.map sRow))), (1, .c (.str y))]) (rts := []) (n := 19) (k := 2) Tryz.func117 rfl rfl (by simp) rfl (fun t => ?_) rfl ?_
  · rcases t with _ | _ | t <;> rfl
  (refine vw_go rfl ?_; simp only [go_sem, setCells, setIn])
  refine vw_seq ?_
  (refine vw_go rfl ?_; simp only [go_sem, setCells, setIn])
  refine vw_block ?_
  refine vw_loop_tab (α := Nat) (fun x => l.length - x) (fun x => ⟨tabE [(0, .c (.list false 1 (l.map sRow))), (1, .c (.str y)), (7, .c (.int .i64 l.length)), (8, .c (.int .i64 x))], tabS [], 2⟩)
    (fun x => x ≤ l.length ∧ idxOf (fun x => decide (y = x)) (l.drop x) x = idxOf (fun x => decide (y = x)) l 0) (x := 0) ?round ?h0 ?hn
  case h0 => exact ⟨Nat.zero_le _, rfl⟩
  case hn => (refine norm_to [] rfl ?_ ?_ <;> simp only [go_sem])
  rintro i ⟨hi, hm⟩
  (refine vw_go rfl ?_; simp only [go_sem, setCells, setIn])
  refine vw_seq ?_
  refine vw_cond (t := decide ((i : Int) < l.length)) rfl (fun h => ?_) (fun h => ?_)
  · refine vw_skip (n_then ?_)
    rcases get_or l i with ⟨x, hx, hlt⟩ | ⟨_, hge⟩
    case inr => simp only [decide_eq_true_eq] at h; omega
    have c1 : (0:Int) ≤ (i:Int) := by omega
    have c2 : (i:Int) < (l.length : Int) := by omega
    rw [drop_of hx] at hm
    refine vw_seq ?_
    refine vw_block ?_
    (refine vw_go rfl ?_; simp only [go_sem, setCells, setIn])
    (refine vw_go rfl ?_; simp only [c1, c2, Int.toNat_natCast, getD_map_of hx, sRow, go_sem, setCells, setIn])
    refine vw_cond (t := decide (y = x)) rfl (fun h => ?_) (fun h => ?_)
    · (refine vw_go rfl ?_; simp only [go_sem, setCells, setIn])
      simp only [idxOf, h, if_true] at hm
      rw [← hm]
      exact vw_ret (r_block (r_then (r_then (r_block (r_then (e_ret (ret_of rfl rfl (by simp [RB]) rfl rfl)))))))
    · refine vw_skip (n_block (n_then ?_))
      have w2 : IntKind.wrap .i64 ((i:Int) + 1) = ((i + 1 : Nat) : Int) := by rw [wrap_i64 (by omega) (by omega)]; rfl
      (refine vw_last rfl ?_; simp only [w2, go_sem, setCells, setIn])
      refine (n_then ?_)
      simp only [idxOf, h, Bool.false_eq_true, if_false] at hm
      refine ⟨i + 1, by omega, ⟨hlt, hm⟩, ?_⟩
      (refine norm_to [] rfl ?_ ?_ <;> simp only [go_sem])
  · refine vw_exit (x_then (x_then (x_block (n_then ?_))))
    simp only [decide_eq_false_iff_not] at h
    have : i = l.length := by omega
    subst this
    simp only [List.drop_length, idxOf] at hm
    (refine vw_go rfl ?_; simp only [go_sem, setCells, setIn])
    rw [← hm]
    exact vw_ret (e_ret (ret_of rfl rfl (by simp [RB]) rfl rfl))

theorem runs_101 (l : List ByteArray) (hl : l.length < 2 ^ 63) (y : ByteArray) :
    Runs Tryz.prog 101 [.one (.v (.list false 1 (l.map sRow))), .one (.v (.str y))] [.one (.v (.bool (l.any (fun x => decide (y = x)))))] [] := by
  refine runs_tab (tab := [(0, .c (.list false 1 (l.map sRow))), (1, .c (.str y))]) (rts := []) (n := 9) (k := 2) Tryz.func101 rfl rfl (by simp) rfl (fun t => ?_) rfl ?_
  · rcases t with _ | _ | t <;> rfl
  (refine vw_go rfl ?_; simp only [go_sem, setCells, setIn])
  (refine vw_go rfl ?_; simp only [go_sem, setCells, setIn])
  (refine ⟨_, _, call_rd [0, 0] Tryz.func117 (runs_117 l hl y) rfl rfl rfl rfl rfl rfl rfl rfl (by simp [rcells, RT.cells, sRow_r1]) rfl rfl rfl rfl, ?_⟩)
  simp only [runH, runX, idxOf_any, go_sem, setCells, setIn]
  exact vw_ret (e_ret (ret_of rfl rfl (by simp [RB]) rfl rfl))

theorem runs_164 (l : List Int) (hl : l.length < 2 ^ 63) (y : Int) :
    Runs Tryz.prog 164 [.one (.v (.list false 1 (l.map nRow))), .one (.v (.int .i64 y))] [.one (.v (.int .i64 (idxOf (fun x => decide (y = x)) l 0)))] [] := by
  refine runs_tab (tab := [(0, .c (.list false 1 (l.map nRow))), (1, .c (.int .i64 y))]) (rts := []) (n := 19) (k := 2) Tryz.func164 rfl rfl (by simp) rfl (fun t => ?_) rfl ?_
  · rcases t with _ | _ | t <;> rfl
  (refine vw_go rfl ?_; simp only [go_sem, setCells, setIn])
  refine vw_seq ?_
  (refine vw_go rfl ?_; simp only [go_sem, setCells, setIn])
  refine vw_block ?_
  refine vw_loop_tab (α := Nat) (fun x => l.length - x) (fun x => ⟨tabE [(0, .c (.list false 1 (l.map nRow))), (1, .c (.int .i64 y)), (7, .c (.int .i64 l.length)), (8, .c (.int .i64 x))], tabS [], 2⟩)
    (fun x => x ≤ l.length ∧ idxOf (fun x => decide (y = x)) (l.drop x) x = idxOf (fun x => decide (y = x)) l 0) (x := 0) ?round ?h0 ?hn
  case h0 => exact ⟨Nat.zero_le _, rfl⟩
  case hn => (refine norm_to [] rfl ?_ ?_ <;> simp only [go_sem])
  rintro i ⟨hi, hm⟩
  (refine vw_go rfl ?_; simp only [go_sem, setCells, setIn])
  refine vw_seq ?_
  refine vw_cond (t := decide ((i : Int) < l.length)) rfl (fun h => ?_) (fun h => ?_)
  · refine vw_skip (n_then ?_)
    rcases get_or l i with ⟨x, hx, hlt⟩ | ⟨_, hge⟩
    case inr => simp only [decide_eq_true_eq] at h; omega
    have c1 : (0:Int) ≤ (i:Int) := by omega
    have c2 : (i:Int) < (l.length : Int) := by omega
    rw [drop_of hx] at hm
    refine vw_seq ?_
    refine vw_block ?_
    (refine vw_go rfl ?_; simp only [go_sem, setCells, setIn])
    (refine vw_go rfl ?_; simp only [c1, c2, Int.toNat_natCast, getD_map_of hx, nRow, go_sem, setCells, setIn])
    refine vw_cond (t := decide (y = x)) rfl (fun h => ?_) (fun h => ?_)
    · (refine vw_go rfl ?_; simp only [go_sem, setCells, setIn])
      simp only [idxOf, h, if_true] at hm
      rw [← hm]
      exact vw_ret (r_block (r_then (r_then (r_block (r_then (e_ret (ret_of rfl rfl (by simp [RB]) rfl rfl)))))))
    · refine vw_skip (n_block (n_then ?_))
      have w2 : IntKind.wrap .i64 ((i:Int) + 1) = ((i + 1 : Nat) : Int) := by rw [wrap_i64 (by omega) (by omega)]; rfl
      (refine vw_last rfl ?_; simp only [w2, go_sem, setCells, setIn])
      refine (n_then ?_)
      simp only [idxOf, h, Bool.false_eq_true, if_false] at hm
      refine ⟨i + 1, by omega, ⟨hlt, hm⟩, ?_⟩
      (refine norm_to [] rfl ?_ ?_ <;> simp only [go_sem])
  · refine vw_exit (x_then (x_then (x_block (n_then ?_))))
    simp only [decide_eq_false_iff_not] at h
    have : i = l.length := by omega
    subst this
    simp only [List.drop_length, idxOf] at hm
    (refine vw_go rfl ?_; simp only [go_sem, setCells, setIn])
    rw [← hm]
    exact vw_ret (e_ret (ret_of rfl rfl (by simp [RB]) rfl rfl))

end Go.Proofs.YtoenfbbadfcfpaaGreatDoor
namespace Go.Proofs.YtoenfbbadfcfpaaGreatDoor
open Go.VM
set_option maxRecDepth 100000
set_option linter.unusedSimpArgs false
set_option linter.unusedVariables false
attribute [local congr] vw_congr runV_congr runH_congr runW_congr runX_congr stuckV_congr stuckX_congr

theorem runs_61 (x lo hi : Int) : Runs Tryz.prog 61 [.one (.v (.int .i64 x)), .one (.v (.int .i64 lo)), .one (.v (.int .i64 hi))] [.one (.v (.bool (inB x lo hi)))] [] := by
  refine runs_tab (tab := [(0, .c (.int .i64 x)), (1, .c (.int .i64 lo)), (2, .c (.int .i64 hi))]) (rts := []) (n := 15) (k := 3) Tryz.func61 rfl rfl (by simp) rfl (fun t => ?_) rfl ?_
  · rcases t with _ | _ | _ | t <;> rfl
  (refine vw_go rfl ?_; simp only [go_sem, setCells, setIn])
  by_cases h : lo ≤ x
  · (refine vw_go rfl ?_; simp only [h, go_sem, setCells, setIn])
    rw [show inB x lo hi = decide (x ≤ hi) from by simp [inB, h]]
    exact vw_ret (e_ret (ret_of rfl rfl (by simp [RB]) rfl rfl))
  · (refine vw_go rfl ?_; simp only [h, go_sem, setCells, setIn])
    rw [show inB x lo hi = false from by simp [inB, h]]
    exact vw_ret (e_ret (ret_of rfl rfl (by simp [RB]) rfl rfl))
theorem runs_66 (x lo hi : Int) : Runs Tryz.prog 66 [.one (.v (.int .i64 x)), .one (.v (.int .i64 lo)), .one (.v (.int .i64 hi))] [.one (.v (.bool (inB x lo hi)))] [] := by
  refine runs_tab (tab := [(0, .c (.int .i64 x)), (1, .c (.int .i64 lo)), (2, .c (.int .i64 hi))]) (rts := []) (n := 15) (k := 3) Tryz.func66 rfl rfl (by simp) rfl (fun t => ?_) rfl ?_
  · rcases t with _ | _ | _ | t <;> rfl
  (refine vw_go rfl ?_; simp only [go_sem, setCells, setIn])
  by_cases h : lo ≤ x
  · (refine vw_go rfl ?_; simp only [h, go_sem, setCells, setIn])
    rw [show inB x lo hi = decide (x ≤ hi) from by simp [inB, h]]
    exact vw_ret (e_ret (ret_of rfl rfl (by simp [RB]) rfl rfl))
  · (refine vw_go rfl ?_; simp only [h, go_sem, setCells, setIn])
    rw [show inB x lo hi = false from by simp [inB, h]]
    exact vw_ret (e_ret (ret_of rfl rfl (by simp [RB]) rfl rfl))
end Go.Proofs.YtoenfbbadfcfpaaGreatDoor
namespace Go.Proofs.YtoenfbbadfcfpaaGreatDoor
open Go.VM Go
set_option maxRecDepth 100000
set_option linter.unusedSimpArgs false
set_option linter.unusedVariables false
attribute [local congr] vw_congr runV_congr runH_congr runW_congr runX_congr stuckV_congr stuckX_congr

abbrev bRow (b : UInt8) : List T := [.int .u8 b.toNat]
theorem bRow_noOwn (l : List UInt8) : ((l.map bRow).all fun r => r.all plainT) = true := by
  rw [List.all_map, List.all_eq_true]; intro x _; rfl
theorem bytes_rows : ∀ l : List UInt8, (l.map bRow).mapM byteRow = some l
  | [] => rfl
  | x :: l => by
    rw [List.map_cons, List.mapM_cons, bytes_rows l]
    simp [byteRow]
theorem bytesV_map (l : List UInt8) : bytesV (l.map bRow) = some ⟨l.toArray⟩ := by rw [bytesV, bytes_rows]; rfl
theorem u8_wrap {n : Nat} (h : n < 256) : IntKind.wrap .u8 (n : Int) = ((UInt8.ofNat n).toNat : Int) := by
  have e : (UInt8.ofNat n).toNat = n := by simp; omega
  rw [e]
  have e2 : IntKind.wrap .u8 (n : Int) = (n : Int) % 256 := rfl
  rw [e2]; omega

end Go.Proofs.YtoenfbbadfcfpaaGreatDoor
namespace Go.Proofs.YtoenfbbadfcfpaaGreatDoor
open Go.VM
set_option maxRecDepth 100000
set_option linter.unusedSimpArgs false
set_option linter.unusedVariables false
attribute [local congr] vw_congr runV_congr runH_congr runW_congr runX_congr stuckV_congr stuckX_congr

theorem bs_len (s : ByteArray) : s.data.toList.length = s.size := Array.length_toList
def lowB (b : UInt8) : Bool := decide (97 ≤ (b.toNat : Int)) && decide ((b.toNat : Int) ≤ 122)
def nameOk (s : ByteArray) : Bool := s.data.toList.all lowB && inB s.size 1 6
theorem getD_of {α : Type} {l : List α} {i : Nat} {x d : α} (h : l[i]? = some x) : l.getD i d = x := by
  rw [List.getD_eq_getElem?_getD, h]; rfl
theorem all_bad {s : ByteArray} {i : Nat} {b : UInt8} (h : s.data.toList[i]? = some b) (hb : lowB b = false) : nameOk s = false := by
  have : s.data.toList.all lowB = false := by
    rw [List.all_eq_false]
    exact ⟨b, List.mem_of_getElem? h, by simp [hb]⟩
  simp [nameOk, this]

theorem runs_88 (s : ByteArray) (hs : s.size < 2 ^ 62) : Runs Tryz.prog 88 [.one (.v (.str s))] [.one (.v (.bool (nameOk s)))] [] := by
  refine runs_tab (tab := [(0, .c (.str s))]) (rts := []) (n := 23) (k := 1) Tryz.func88 rfl rfl (by simp) rfl (fun t => ?_) rfl ?_
  · rcases t with _ | t <;> rfl
  (refine vw_go rfl ?_; simp only [go_sem, setCells, setIn])
  refine vw_seq ?_
  (refine vw_go rfl ?_; simp only [go_sem, setCells, setIn])
  refine vw_block ?_
  refine vw_loop_tab (α := Nat) (fun x => s.size - x) (fun x => ⟨tabE [(0, .c (.str s)), (3, .c (.int .i64 x))], tabS [], 1⟩)
    (fun x => x ≤ s.size ∧ (s.data.toList.drop x).all lowB = s.data.toList.all lowB) (x := 0) ?round ?h0 ?hn
  case h0 => exact ⟨Nat.zero_le _, rfl⟩
  case hn => (refine norm_to [] rfl ?_ ?_ <;> simp only [go_sem])
  rintro i ⟨hi, hm⟩
  refine vw_seq ?_
  (refine vw_go rfl ?_; simp only [go_sem, setCells, setIn])
  refine vw_cond (t := decide ((i : Int) < s.size)) rfl (fun h => ?_) (fun h => ?_)
  · refine vw_skip (n_then ?_)
    rcases get_or s.data.toList i with ⟨b, hx, hlt⟩ | ⟨_, hge⟩
    case inr => simp only [decide_eq_true_eq] at h; rw [bs_len] at hge; omega
    rw [bs_len] at hlt
    have c1 : (0:Int) ≤ (i:Int) := by omega
    have c2 : (i:Int) < (s.size : Int) := by omega
    have g := getD_of (d := 0) hx
    rw [drop_of hx, List.all_cons] at hm
    refine vw_seq ?_
    refine vw_block ?_
    by_cases a1 : ((b.toNat : Int) < 97)
    · (refine vw_go rfl ?_; simp only [c1, c2, Int.toNat_natCast, g, a1, go_sem, setCells, setIn])
      refine vw_cond (t := true) rfl (fun h => ?_) (fun h => ?_)
      case refine_2 => cases h
      (refine vw_go rfl ?_; simp only [go_sem, setCells, setIn])
      rw [all_bad hx (by simp [lowB]; omega)]
      exact vw_ret (r_block (r_then (r_then (r_block (r_then (e_ret (ret_of rfl rfl (by simp [RB]) rfl rfl)))))))
    · (refine vw_go rfl ?_; simp only [c1, c2, Int.toNat_natCast, g, a1, go_sem, setCells, setIn])
      refine vw_cond (t := decide (122 < (b.toNat : Int))) rfl (fun h => ?_) (fun h => ?_)
      · (refine vw_go rfl ?_; simp only [go_sem, setCells, setIn])
        simp only [decide_eq_true_eq] at h
        rw [all_bad hx (by simp [lowB]; omega)]
        exact vw_ret (r_block (r_then (r_then (r_block (r_then (e_ret (ret_of rfl rfl (by simp [RB]) rfl rfl)))))))
      · refine vw_skip (n_block (n_then ?_))
        have w2 : IntKind.wrap .i64 ((i:Int) + 1) = ((i + 1 : Nat) : Int) := by rw [wrap_i64 (by omega) (by omega)]; rfl
        (refine vw_last rfl ?_; simp only [w2, go_sem, setCells, setIn])
        refine (n_then ?_)
        simp only [decide_eq_false_iff_not] at h
        rw [show lowB b = true from by simp [lowB]; omega, Bool.true_and] at hm
        refine ⟨i + 1, by omega, ⟨by omega, hm⟩, ?_⟩
        (refine norm_to [] rfl ?_ ?_ <;> simp only [go_sem])
  · refine vw_exit (x_then (x_then (x_block (n_then ?_))))
    simp only [decide_eq_false_iff_not] at h
    have : i = s.size := by omega
    subst this
    rw [← bs_len, List.drop_length, List.all_nil] at hm
    (refine vw_go rfl ?_; simp only [go_sem, setCells, setIn])
    (refine ⟨_, _, call_rd [0, 0, 0] Tryz.func61 (runs_61 (s.size : Int) 1 6) rfl rfl rfl rfl rfl rfl rfl rfl rfl rfl rfl rfl rfl, ?_⟩)
    simp only [runH, runX, go_sem, setCells, setIn]
    rw [show nameOk s = inB s.size 1 6 from by simp [nameOk, ← hm]]
    exact vw_ret (e_ret (ret_of rfl rfl (by simp [RB]) rfl rfl))

theorem runs_95 (s : ByteArray) (hs : s.size < 2 ^ 62) : Runs Tryz.prog 95 [.one (.v (.str s))] [.one (.v (.bool (nameOk s)))] [] := by
  refine runs_tab (tab := [(0, .c (.str s))]) (rts := []) (n := 23) (k := 1) Tryz.func95 rfl rfl (by simp) rfl (fun t => ?_) rfl ?_
  · rcases t with _ | t <;> rfl
  (refine vw_go rfl ?_; simp only [go_sem, setCells, setIn])
  refine vw_seq ?_
  (refine vw_go rfl ?_; simp only [go_sem, setCells, setIn])
  refine vw_block ?_
  refine vw_loop_tab (α := Nat) (fun x => s.size - x) (fun x => ⟨tabE [(0, .c (.str s)), (5, .c (.int .i64 s.size)), (6, .c (.int .i64 x))], tabS [], 1⟩)
    (fun x => x ≤ s.size ∧ (s.data.toList.drop x).all lowB = s.data.toList.all lowB) (x := 0) ?round ?h0 ?hn
  case h0 => exact ⟨Nat.zero_le _, rfl⟩
  case hn => (refine norm_to [] rfl ?_ ?_ <;> simp only [go_sem])
  rintro i ⟨hi, hm⟩
  (refine vw_go rfl ?_; simp only [go_sem, setCells, setIn])
  refine vw_seq ?_
  refine vw_cond (t := decide ((i : Int) < s.size)) rfl (fun h => ?_) (fun h => ?_)
  · refine vw_skip (n_then ?_)
    rcases get_or s.data.toList i with ⟨b, hx, hlt⟩ | ⟨_, hge⟩
    case inr => simp only [decide_eq_true_eq] at h; rw [bs_len] at hge; omega
    rw [bs_len] at hlt
    have c1 : (0:Int) ≤ (i:Int) := by omega
    have c2 : (i:Int) < (s.size : Int) := by omega
    have g := getD_of (d := 0) hx
    rw [drop_of hx, List.all_cons] at hm
    refine vw_seq ?_
    refine vw_block ?_
    (refine vw_go rfl ?_; simp only [go_sem, setCells, setIn])
    by_cases a1 : ((b.toNat : Int) < 97)
    · (refine vw_go rfl ?_; simp only [c1, c2, Int.toNat_natCast, g, a1, go_sem, setCells, setIn])
      refine vw_cond (t := true) rfl (fun h => ?_) (fun h => ?_)
      case refine_2 => cases h
      (refine vw_go rfl ?_; simp only [go_sem, setCells, setIn])
      rw [all_bad hx (by simp [lowB]; omega)]
      exact vw_ret (r_block (r_then (r_then (r_block (r_then (e_ret (ret_of rfl rfl (by simp [RB]) rfl rfl)))))))
    · (refine vw_go rfl ?_; simp only [c1, c2, Int.toNat_natCast, g, a1, go_sem, setCells, setIn])
      refine vw_cond (t := decide (122 < (b.toNat : Int))) rfl (fun h => ?_) (fun h => ?_)
      · (refine vw_go rfl ?_; simp only [go_sem, setCells, setIn])
        simp only [decide_eq_true_eq] at h
        rw [all_bad hx (by simp [lowB]; omega)]
        exact vw_ret (r_block (r_then (r_then (r_block (r_then (e_ret (ret_of rfl rfl (by simp [RB]) rfl rfl)))))))
      · refine vw_skip (n_block (n_then ?_))
        have w2 : IntKind.wrap .i64 ((i:Int) + 1) = ((i + 1 : Nat) : Int) := by rw [wrap_i64 (by omega) (by omega)]; rfl
        (refine vw_last rfl ?_; simp only [w2, go_sem, setCells, setIn])
        refine (n_then ?_)
        simp only [decide_eq_false_iff_not] at h
        rw [show lowB b = true from by simp [lowB]; omega, Bool.true_and] at hm
        refine ⟨i + 1, by omega, ⟨by omega, hm⟩, ?_⟩
        (refine norm_to [] rfl ?_ ?_ <;> simp only [go_sem])
  · refine vw_exit (x_then (x_then (x_block (n_then ?_))))
    simp only [decide_eq_false_iff_not] at h
    have : i = s.size := by omega
    subst this
    rw [← bs_len, List.drop_length, List.all_nil] at hm
    (refine vw_go rfl ?_; simp only [go_sem, setCells, setIn])
    (refine ⟨_, _, call_rd [0, 0, 0] Tryz.func66 (runs_66 (s.size : Int) 1 6) rfl rfl rfl rfl rfl rfl rfl rfl rfl rfl rfl rfl rfl, ?_⟩)
    simp only [runH, runX, go_sem, setCells, setIn]
    rw [show nameOk s = inB s.size 1 6 from by simp [nameOk, ← hm]]
    exact vw_ret (e_ret (ret_of rfl rfl (by simp [RB]) rfl rfl))
end Go.Proofs.YtoenfbbadfcfpaaGreatDoor
namespace Go.VM
open Go
def chkPre (pre : List (List Nat)) : Nat → List Oper → Bool
  | _, [] => true
  | k, o :: l => ((pre.getD k []).all fun i => (o.after.toList.filter fun e => Region.binds .any e).any fun e => (e.on == i) || (decide (e.on < k) && (pre.getD e.on []).contains i)) && chkPre pre (k + 1) l
theorem closeL_mem {acc : List (List Nat)} {o : Oper} {i : Nat} : i ∈ closeL acc o ↔ ∃ e, e ∈ o.after.toList.filter (fun e => Region.binds .any e) ∧ (i = e.on ∨ i ∈ acc.getD e.on []) := by
  unfold closeL
  rw [List.mem_eraseDups, List.mem_flatMap]
  simp only [List.mem_cons]
theorem chkPre_sub {pre : List (List Nat)} : ∀ (l : List Oper) (acc : List (List Nat)), chkPre pre acc.length l = true → (∀ j i, j < acc.length → i ∈ pre.getD j [] → i ∈ acc.getD j []) →
    ∀ j i, j < acc.length + l.length → i ∈ pre.getD j [] → i ∈ (precs l acc).getD j []
  | [], acc, _, h, j, i, hj, hi => h j i (by simpa using hj) hi
  | o :: l, acc, hc, h, j, i, hj, hi => by
    simp only [chkPre, Bool.and_eq_true, List.all_eq_true] at hc
    simp only [precs]
    refine chkPre_sub l (acc ++ [closeL acc o]) (by simpa using hc.2) (fun j i hj hi => ?_) j i (by simp at hj ⊢; omega) hi
    by_cases e : j < acc.length
    · rw [List.getD_eq_getElem?_getD, List.getElem?_append_left e, ← List.getD_eq_getElem?_getD]
      exact h j i e hi
    · obtain rfl : j = acc.length := by simp at hj; omega
      rw [List.getD_eq_getElem?_getD, List.getElem?_append_right (Nat.le_refl _), Nat.sub_self]
      simp only [List.getElem?_cons_zero, Option.getD_some]
      rw [closeL_mem]
      have := hc.1 i hi
      simp only [List.any_eq_true, Bool.or_eq_true, beq_iff_eq, Bool.and_eq_true, decide_eq_true_eq, List.contains_iff_mem] at this
      obtain ⟨e, he, h1 | ⟨h1, h2⟩⟩ := this
      · exact ⟨e, he, .inl h1.symm⟩
      · exact ⟨e, he, .inr (h e.on i h1 h2)⟩
theorem allOk_pre {l : List Oper} {its : List It} (pre : List (List Nat)) (h1 : chkPre pre 0 l = true) (h0 : its.length ≤ l.length) (h2 : pairsOk pre its = true) : allOk l its := by
  unfold allOk
  unfold pairsOk at h2 ⊢
  simp only [List.all_eq_true, Bool.or_eq_true, List.contains_iff_mem, List.mem_range] at h2 ⊢
  intro j hj i hi
  rcases h2 j hj i hi with h | h
  · exact .inl (chkPre_sub l [] h1 (fun j i hj => absurd hj (by simp)) j i (by simp; omega) h)
  · exact .inr h
/-- A region of open order, its list of operations named. -/
theorem vw_drawA {P : Program} {n K id : Nat} {l : List Oper} {y : Code} {Q : Exit → FS → Prop} {env : Nat → VV} {st : St} {nx : Nat} (hm : P.follows .mixedOrders = true) (hd : regOk n l = true) (he : edgesOk l.toArray = true)
    (h : ∀ A : Array Oper, A = l.toArray → runW P A nx 0 l env st [] (fun its env st => allOk l its ∧ VW P n K y Q ⟨env, st, nx + 65536⟩)) : VW P n K (.seq (.region id l.toArray true) y) Q ⟨env, st, nx⟩ :=
  vw_draw hm hd he (h _ rfl)
theorem vw_drawA_last {P : Program} {n K id : Nat} {l : List Oper} {Q : Exit → FS → Prop} {env : Nat → VV} {st : St} {nx : Nat} (hm : P.follows .mixedOrders = true) (hd : regOk n l = true) (he : edgesOk l.toArray = true)
    (h : ∀ A : Array Oper, A = l.toArray → runW P A nx 0 l env st [] (fun its env st => allOk l its ∧ Q .normal ⟨env, st, nx + 1024 * l.toArray.size⟩)) : VW P n K (.region id l.toArray true) Q ⟨env, st, nx⟩ :=
  vw_draw_last hm hd he (h _ rfl)
theorem runW_step (P : Program) (ops : Array Oper) (nx i : Nat) (o : Oper) (l : List Oper) (env : Nat → VV) (st : St) (acc : List It) (K : List It → (Nat → VV) → St → Prop) :
    runW P ops nx i (o :: l) env st acc K =
      match wantedV ops o env with
      | some true =>
        (match isCall o with
        | true => ∃ v u rd, OpAt P (nx + 1024 * i) o rd env st ⟨v, u⟩ ∧ runX P ops nx (i + 1) l (dstE env o.dst v) (st.ups u) (acc ++ [⟨o.dst, v, u, o.looksAt ops, rd⟩]) K
        | false => match vop P (nx + 1024 * i) o env st with
          | some e => runW P ops nx (i + 1) l (dstE env o.dst e.v) (st.ups e.ups) (acc ++ [⟨o.dst, e.v, e.ups, o.looksAt ops, readsOf env o⟩]) K
          | none => stuckX P ops nx i o l env st acc K)
      | some false => runW P ops nx (i + 1) l (dstE env o.dst (.tup [])) st (acc ++ [⟨o.dst, .tup [], [], o.looksAt ops, []⟩]) K
      | none => False := (rfl)
end Go.VM
