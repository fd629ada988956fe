/- Marks: their texts; lists of texts: size, copy, comparing, marking, and reading marks again. The library's IndexFunc, ContainsFunc, Index, Contains, Clone, Equal of texts and of numbers. Printed by slf.py. A number between two numbers. Numbers and texts as bytes: PutNum, GetNum, Sum, PutText, GetText. Names: NameOk of both. Regions of open order with many operations: what is ahead of each given as a list, and checked. Nodes: NodeOk of both. Nodes: NodeText of both. Nodes: NodeText of impl. Nodes: NodeRead of both, NodeAt of both. Nodes: NodeRead of the program, NodeAt of both. Nodes: NodeAt of both. Nodes: which number a name has, of the reference. More ways to call: results that hold, and a pointer's call in a region of open order. Volumes: going through one, of both. A call that turns one list behind one thing that is only read. Volumes: the reference goes through one. Volumes: VolumeOk of both. Calls of the two functions of the library that have no body: the count of a byte, the place of a byte. -/
import Derived.Test.YtoenfbbadfcfpaaGreatDoorPFTypedO
import Derived.Test.YtoenfbbadfcfpaaGreatDoorPVBk
import Derived.Laws.Externs
import Derived.Lib.Bytealg
namespace Go.Proofs.YtoenfbbadfcfpaaGreatDoor
open Go.VM
set_option maxRecDepth 100000
set_option linter.unusedSimpArgs false
set_option linter.unusedVariables false
attribute [local congr] vw_congr runV_congr runH_congr runW_congr runX_congr stuckV_congr stuckX_congr

theorem range1 : List.range 1 = [0] := rfl

def dig (k : Nat) : ByteArray := ⟨#[UInt8.ofNat (IntKind.wrap .u8 (IntKind.wrap .i64 (48 + (k : Int).tmod 10))).toNat]⟩
def mtL : Nat → Nat → ByteArray → ByteArray
  | 0, _, s => s
  | f + 1, k, s => if 0 < k then mtL f (k / 10) (dig k ++ s) else s
def mt (k : Int) : ByteArray := if k ≤ 0 then ⟨#[109, 48]⟩ else ⟨#[109]⟩ ++ mtL 64 k.toNat ⟨#[]⟩

theorem runs_41 (k : Int) (h0 : 0 ≤ k) (h1 : k < 2 ^ 63) : Runs Tryz.prog 41 [.one (.v (.int .i64 k))] [.one (.v (.str (mt k)))] [] := by
  refine runs_tab (tab := [(0, .c (.int .i64 k))]) (rts := []) (n := 20) (k := 1) Tryz.func41 rfl rfl (by simp) rfl (fun t => ?_) rfl ?_
  · rcases t with _ | t <;> rfl
  (refine vw_go rfl ?_; simp only [go_sem, setCells, setIn])
  refine vw_seq ?_
  (refine vw_go rfl ?_; simp only [go_sem, setCells, setIn])
  refine vw_cond (t := decide (k ≤ 0)) rfl (fun g => ?_) (fun g => ?_)
  · (refine vw_go rfl ?_; simp only [go_sem, setCells, setIn])
    rw [show mt k = ⟨#[109, 48]⟩ from by simp only [decide_eq_true_eq] at g; simp [mt, g]]
    exact vw_ret (r_then (e_ret (ret_of rfl rfl (by simp [RB]) rfl rfl)))
  refine vw_skip (n_then ?_)
  simp only [decide_eq_false_iff_not] at g
  obtain ⟨n0, rfl⟩ : ∃ n0 : Nat, k = (n0 : Int) := ⟨k.toNat, by omega⟩
  (refine vw_go rfl ?_; simp only [go_sem, setCells, setIn])
  refine vw_seq ?_
  refine vw_block ?_
  refine vw_loop_tab (α := Nat × Nat × ByteArray) (fun x => x.2.1) (fun x => ⟨tabE [(0, .c (.int .i64 x.2.1)), (3, .c (.str x.2.2))], tabS [], 1⟩)
    (fun x => x.2.1 < 10 ^ x.1 ∧ x.2.1 ≤ n0 ∧ x.2.2.size + x.1 ≤ 64 ∧ mtL x.1 x.2.1 x.2.2 = mtL 64 n0 ⟨#[]⟩) (x := (64, n0, ⟨#[]⟩)) ?round ?h0 ?hn
  case h0 => exact ⟨by simp only; omega, Nat.le_refl _, by simp [ByteArray.size], rfl⟩
  case hn => (refine norm_to [] rfl ?_ ?_ <;> simp only [go_sem])
  rintro ⟨f, m, s⟩ ⟨hf, hmn, hs, hm⟩
  simp only at hf hmn hs hm
  refine vw_seq ?_
  (refine vw_go rfl ?_; simp only [go_sem, setCells, setIn])
  refine vw_cond (t := decide ((0:Int) < (m : Int))) rfl (fun h => ?_) (fun h => ?_)
  · refine vw_skip (n_then ?_)
    simp only [decide_eq_true_eq] at h
    have hmp : 0 < m := by omega
    cases f with
    | zero => simp at hf; omega
    | succ f =>
    have e1 : IntKind.wrap .i64 ((m : Int).tdiv 10) = ((m / 10 : Nat) : Int) := by
      have : ((m / 10 : Nat) : Int) = (m : Int).tdiv 10 := Int.ofNat_tdiv m 10
      rw [← this]
      exact wrap_i64 (by omega) (by omega)
    have A1 : 1 + s.size < 2 ^ 60 := by omega
    refine vw_block ?_
    (refine vw_go rfl ?_; simp only [A1, List.size_toArray, range1, bytesV, byteRow, List.replicate_succ, List.replicate_zero, List.flatten_cons, List.flatten_nil, List.mapM_cons, List.mapM_nil, Option.bind_eq_bind, Option.pure_def, go_sem, setCells, setIn])
    (refine vw_last rfl ?_; simp only [e1, go_sem, setCells, setIn])
    refine (n_block (n_then ?_))
    simp only [mtL, hmp, if_true] at hm
    refine ⟨(f, m / 10, dig m ++ s), by simp only; omega, ⟨?_, by simp only; omega, ?_, hm⟩, ?_⟩
    · simp only
      have : 10 ^ (f + 1) = 10 ^ f * 10 := Nat.pow_succ 10 f
      omega
    · have : (dig m).size = 1 := rfl
      simp only [ByteArray.size_append, this]; omega
    · (refine norm_to [] rfl ?_ ?_ <;> simp only [go_sem])
      rfl
  · refine vw_exit (x_then (x_then (x_block (n_then ?_))))
    simp only [decide_eq_false_iff_not] at h
    have hm0 : m = 0 := by omega
    subst hm0
    have A2 : 1 + s.size < 2 ^ 60 := by omega
    (refine vw_go rfl ?_; simp only [A2, List.size_toArray, go_sem, setCells, setIn])
    have e : mtL f 0 s = s := by cases f <;> simp [mtL]
    rw [e] at hm
    rw [show mt (n0 : Int) = ⟨#[109]⟩ ++ s from by simp only [mt]; rw [if_neg g, hm]; simp]
    exact vw_ret (e_ret (ret_of rfl rfl (by simp [RB]) rfl rfl))

/-! ### lists of texts -/

def sRow (s : ByteArray) : List T := [.str s]
def zS : List T := [.str ⟨#[]⟩]
theorem sRow_r1 (x : ByteArray) : (sRow x).map T.toRO = sRow x := by simp [sRow]
theorem sRow_clean (l : List ByteArray) : cleanRs (l.map sRow) = true := clean_map (fun x => rfl) l
def marks (k : Int) (n : Nat) : List ByteArray := (List.range n).map fun (j : Nat) => mt (k + (j : Int))
end Go.Proofs.YtoenfbbadfcfpaaGreatDoor
namespace Go.Proofs.YtoenfbbadfcfpaaGreatDoor
open Go.VM Go
set_option maxRecDepth 100000
set_option linter.unusedSimpArgs false
set_option linter.unusedVariables false
attribute [local congr] vw_congr runV_congr runH_congr runW_congr runX_congr stuckV_congr stuckX_congr
abbrev nRow (n : Int) : List T := [.int .i64 n]
theorem nRow_r1 (x : Int) : (nRow x).map T.toRO = nRow x := by simp
theorem nRow_comp : List.map T.toRO ∘ nRow = nRow := funext nRow_r1
theorem sRow_comp : List.map T.toRO ∘ sRow = sRow := funext sRow_r1
theorem nRow_clean (l : List Int) : cleanRs (l.map nRow) = true := clean_map (fun x => rfl) l
theorem runs_112 (l : List ByteArray) (hl : l.length < 2 ^ 63) (f : Nat) (fn : Func) (p : ByteArray → Bool) (hf : Tryz.prog.funcs[f]? = some fn) (hbody : fn.body.isNone = false) (hname : (fn.name == "runtime.NumGoroutine") = false)
    (hp : ∀ x ∈ l, Runs Tryz.prog f [.one (.v (.str x))] [.one (.v (.bool (p x)))] []) :
    Runs Tryz.prog 112 [.one (.v (.list false 1 (l.map sRow))), .one (.fn f [])] [.one (.v (.int .i64 (idxOf p l 0)))] [] := by
  refine runs_tab (tab := [(0, .c (.list false 1 (l.map sRow))), (1, .fn f [])]) (rts := []) (n := 19) (k := 2) Tryz.func112 rfl rfl (by simp) rfl (fun t => ?_) rfl ?_
  · rcases t with _ | _ | t <;> rfl
  (refine vw_go rfl ?_; simp only [go_sem, setCells, setIn])
  refine vw_seq ?_
  (refine vw_go rfl ?_; simp only [go_sem, setCells, setIn])
  refine vw_block ?_
  refine vw_loop_tab (α := Nat) (fun x => l.length - x) (fun x => ⟨tabE [(0, .c (.list false 1 (l.map sRow))), (1, .fn f []), (7, .c (.int .i64 l.length)), (8, .c (.int .i64 x))], tabS [], 2⟩)
    (fun x => x ≤ l.length ∧ idxOf p (l.drop x) x = idxOf p l 0) (x := 0) ?round ?h0 ?hn
  case h0 => exact ⟨Nat.zero_le _, rfl⟩
  case hn => (refine norm_to [] rfl ?_ ?_ <;> simp only [go_sem])
  rintro i ⟨hi, hm⟩
  (refine vw_go rfl ?_; simp only [go_sem, setCells, setIn])
  refine vw_seq ?_
  refine vw_cond (t := decide ((i : Int) < l.length)) rfl (fun h => ?_) (fun h => ?_)
  · refine vw_skip (n_then ?_)
    rcases get_or l i with ⟨x, hx, hlt⟩ | ⟨_, hge⟩
    case inr => simp only [decide_eq_true_eq] at h; omega
    have c1 : (0:Int) ≤ (i:Int) := by omega
    have c2 : (i:Int) < (l.length : Int) := by omega
    rw [drop_of hx] at hm
    refine vw_seq ?_
    refine vw_block ?_
    (refine vw_go rfl ?_; simp only [go_sem, setCells, setIn])
    (refine vw_go rfl ?_; simp only [c1, c2, Int.toNat_natCast, getD_map_of hx, sRow, go_sem, setCells, setIn])
    refine ⟨_, _, call_rd [0] hf (hp x (List.mem_of_getElem? hx)) rfl rfl rfl hbody hname rfl rfl rfl rfl rfl rfl rfl rfl, ?_⟩
    simp only [runH, runX, go_sem, setCells, setIn]
    refine vw_cond (t := p x) rfl (fun h => ?_) (fun h => ?_)
    · (refine vw_go rfl ?_; simp only [go_sem, setCells, setIn])
      simp only [idxOf, h, if_true] at hm
      rw [← hm]
      exact vw_ret (r_block (r_then (r_then (r_block (r_then (e_ret (ret_of rfl rfl (by simp [RB]) rfl rfl)))))))
    · refine vw_skip (n_block (n_then ?_))
      have w2 : IntKind.wrap .i64 ((i:Int) + 1) = ((i + 1 : Nat) : Int) := by rw [wrap_i64 (by omega) (by omega)]; rfl
      (refine vw_last rfl ?_; simp only [w2, go_sem, setCells, setIn])
      refine (n_then ?_)
      simp only [idxOf, h, Bool.false_eq_true, if_false] at hm
      refine ⟨i + 1, by omega, ⟨hlt, hm⟩, ?_⟩
      (refine norm_to [] rfl ?_ ?_ <;> simp only [go_sem])
  · refine vw_exit (x_then (x_then (x_block (n_then ?_))))
    (refine vw_go rfl ?_; simp only [go_sem, setCells, setIn])
    simp only [decide_eq_false_iff_not] at h
    have : i = l.length := by omega
    subst this
    simp only [List.drop_length, idxOf] at hm
    rw [← hm]
    exact vw_ret (e_ret (ret_of rfl rfl (by simp [RB]) rfl rfl))

theorem runs_93 (l : List ByteArray) (hl : l.length < 2 ^ 63) (f : Nat) (fn : Func) (p : ByteArray → Bool) (hf : Tryz.prog.funcs[f]? = some fn) (hbody : fn.body.isNone = false) (hname : (fn.name == "runtime.NumGoroutine") = false)
    (hp : ∀ x ∈ l, Runs Tryz.prog f [.one (.v (.str x))] [.one (.v (.bool (p x)))] []) :
    Runs Tryz.prog 93 [.one (.v (.list false 1 (l.map sRow))), .one (.fn f [])] [.one (.v (.bool (l.any p)))] [] := by
  refine runs_tab (tab := [(0, .c (.list false 1 (l.map sRow))), (1, .fn f [])]) (rts := []) (n := 9) (k := 2) Tryz.func93 rfl rfl (by simp) rfl (fun t => ?_) rfl ?_
  · rcases t with _ | _ | t <;> rfl
  (refine vw_go rfl ?_; simp only [go_sem, setCells, setIn])
  (refine vw_go rfl ?_; simp only [go_sem, setCells, setIn])
  (refine ⟨_, _, call_rd [0, 0] Tryz.func112 (runs_112 l hl f fn p hf hbody hname hp) rfl rfl rfl rfl rfl rfl rfl rfl (by simp [rcells, RT.cells, sRow_r1]) rfl rfl rfl rfl, ?_⟩)
  simp only [runH, runX, idxOf_any, go_sem, setCells, setIn]
  exact vw_ret (e_ret (ret_of rfl rfl (by simp [RB]) rfl rfl))

theorem runs_117 (l : List ByteArray) (hl : l.length < 2 ^ 63) (y : ByteArray) :
    Runs Tryz.prog 117 [.one (.v (.list false 1 (l.map sRow))), .one (.v (.str y))] [.one (.v (.int .i64 (idxOf (fun x => decide (y = x)) l 0)))] [] := by
  refine runs_tab (tab := [(0, .c (.list false 1 (l.map sRow))), (1, .c (.str y))]) (rts := []) (n := 19) (k := 2) Tryz.func117 rfl rfl (by simp) rfl (fun t => ?_) rfl ?_
  · rcases t with _ | _ | t <;> rfl
  (refine vw_go rfl ?_; simp only [go_sem, setCells, setIn])
  refine vw_seq ?_
  (refine vw_go rfl ?_; simp only [go_sem, setCells, setIn])
  refine vw_block ?_
  refine vw_loop_tab (α := Nat) (fun x => l.length - x) (fun x => ⟨tabE [(0, .c (.list false 1 (l.map sRow))), (1, .c (.str y)), (7, .c (.int .i64 l.length)), (8, .c (.int .i64 x))], tabS [], 2⟩)
    (fun x => x ≤ l.length ∧ idxOf (fun x => decide (y = x)) (l.drop x) x = idxOf (fun x => decide (y = x)) l 0) (x := 0) ?round ?h0 ?hn
  case h0 => exact ⟨Nat.zero_le _, rfl⟩
  case hn => (refine norm_to [] rfl ?_ ?_ <;> simp only [go_sem])
  rintro i ⟨hi, hm⟩
  (refine vw_go rfl ?_; simp only [go_sem, setCells, setIn])
  refine vw_seq ?_
  refine vw_cond (t := decide ((i : Int) < l.length)) rfl (fun h => ?_) (fun h => ?_)
  · refine vw_skip (n_then ?_)
    rcases get_or l i with ⟨x, hx, hlt⟩ | ⟨_, hge⟩
    case inr => simp only [decide_eq_true_eq] at h; omega
    have c1 : (0:Int) ≤ (i:Int) := by omega
    have c2 : (i:Int) < (l.length : Int) := by omega
    rw [drop_of hx] at hm
    refine vw_seq ?_
    refine vw_block ?_
    (refine vw_go rfl ?_; simp only [go_sem, setCells, setIn])
    (refine vw_go rfl ?_; simp only [c1, c2, Int.toNat_natCast, getD_map_of hx, sRow, go_sem, setCells, setIn])
    refine vw_cond (t := decide (y = x)) rfl (fun h => ?_) (fun h => ?_)
    · (refine vw_go rfl ?_; simp only [go_sem, setCells, setIn])
      simp only [idxOf, h, if_true] at hm
      rw [← hm]
      exact vw_ret (r_block (r_then (r_then (r_block (r_then (e_ret (ret_of rfl rfl (by simp [RB]) rfl rfl)))))))
    · refine vw_skip (n_block (n_then ?_))
      have w2 : IntKind.wrap .i64 ((i:Int) + 1) = ((i + 1 : Nat) : Int) := by rw [wrap_i64 (by omega) (by omega)]; rfl
      (refine vw_last rfl ?_; simp only [w2, go_sem, setCells, setIn])
      refine (n_then ?_)
      simp only [idxOf, h, Bool.false_eq_true, if_false] at hm
      refine ⟨i + 1, by omega, ⟨hlt, hm⟩, ?_⟩
      (refine norm_to [] rfl ?_ ?_ <;> simp only [go_sem])
  · refine vw_exit (x_then (x_then (x_block (n_then ?_))))
    simp only [decide_eq_false_iff_not] at h
    have : i = l.length := by omega
    subst this
    simp only [List.drop_length, idxOf] at hm
    (refine vw_go rfl ?_; simp only [go_sem, setCells, setIn])
    rw [← hm]
    exact vw_ret (e_ret (ret_of rfl rfl (by simp [RB]) rfl rfl))

theorem runs_101 (l : List ByteArray) (hl : l.length < 2 ^ 63) (y : ByteArray) :
    Runs Tryz.prog 101 [.one (.v (.list false 1 (l.map sRow))), .one (.v (.str y))] [.one (.v (.bool (l.any (fun x => decide (y = x)))))] [] := by
  refine runs_tab (tab := [(0, .c (.list false 1 (l.map sRow))), (1, .c (.str y))]) (rts := []) (n := 9) (k := 2) Tryz.func101 rfl rfl (by simp) rfl (fun t => ?_) rfl ?_
  · rcases t with _ | _ | t <;> rfl
  (refine vw_go rfl ?_; simp only [go_sem, setCells, setIn])
  (refine vw_go rfl ?_; simp only [go_sem, setCells, setIn])
  (refine ⟨_, _, call_rd [0, 0] Tryz.func117 (runs_117 l hl y) rfl rfl rfl rfl rfl rfl rfl rfl (by simp [rcells, RT.cells, sRow_r1]) rfl rfl rfl rfl, ?_⟩)
  simp only [runH, runX, idxOf_any, go_sem, setCells, setIn]
  exact vw_ret (e_ret (ret_of rfl rfl (by simp [RB]) rfl rfl))

end Go.Proofs.YtoenfbbadfcfpaaGreatDoor
namespace Go.Proofs.YtoenfbbadfcfpaaGreatDoor
open Go.VM
set_option maxRecDepth 100000
set_option linter.unusedSimpArgs false
set_option linter.unusedVariables false
attribute [local congr] vw_congr runV_congr runH_congr runW_congr runX_congr stuckV_congr stuckX_congr

theorem runs_61 (x lo hi : Int) : Runs Tryz.prog 61 [.one (.v (.int .i64 x)), .one (.v (.int .i64 lo)), .one (.v (.int .i64 hi))] [.one (.v (.bool (inB x lo hi)))] [] := by
  refine runs_tab (tab := [(0, .c (.int .i64 x)), (1, .c (.int .i64 lo)), (2, .c (.int .i64 hi))]) (rts := []) (n := 15) (k := 3) Tryz.func61 rfl rfl (by simp) rfl (fun t => ?_) rfl ?_
  · rcases t with _ | _ | _ | t <;> rfl
  (refine vw_go rfl ?_; simp only [go_sem, setCells, setIn])
  by_cases h : lo ≤ x
  · (refine vw_go rfl ?_; simp only [h, go_sem, setCells, setIn])
    rw [show inB x lo hi = decide (x ≤ hi) from by simp [inB, h]]
    exact vw_ret (e_ret (ret_of rfl rfl (by simp [RB]) rfl rfl))
  · (refine vw_go rfl ?_; simp only [h, go_sem, setCells, setIn])
    rw [show inB x lo hi = false from by simp [inB, h]]
    exact vw_ret (e_ret (ret_of rfl rfl (by simp [RB]) rfl rfl))
theorem runs_66 (x lo hi : Int) : Runs Tryz.prog 66 [.one (.v (.int .i64 x)), .one (.v (.int .i64 lo)), .one (.v (.int .i64 hi))] [.one (.v (.bool (inB x lo hi)))] [] := by
  refine runs_tab (tab := [(0, .c (.int .i64 x)), (1, .c (.int .i64 lo)), (2, .c (.int .i64 hi))]) (rts := []) (n := 15) (k := 3) Tryz.func66 rfl rfl (by simp) rfl (fun t => ?_) rfl ?_
  · rcases t with _ | _ | _ | t <;> rfl
  (refine vw_go rfl ?_; simp only [go_sem, setCells, setIn])
  by_cases h : lo ≤ x
  · (refine vw_go rfl ?_; simp only [h, go_sem, setCells, setIn])
    rw [show inB x lo hi = decide (x ≤ hi) from by simp [inB, h]]
    exact vw_ret (e_ret (ret_of rfl rfl (by simp [RB]) rfl rfl))
  · (refine vw_go rfl ?_; simp only [h, go_sem, setCells, setIn])
    rw [show inB x lo hi = false from by simp [inB, h]]
    exact vw_ret (e_ret (ret_of rfl rfl (by simp [RB]) rfl rfl))
end Go.Proofs.YtoenfbbadfcfpaaGreatDoor
namespace Go.Proofs.YtoenfbbadfcfpaaGreatDoor
open Go.VM
set_option maxRecDepth 100000
set_option linter.unusedSimpArgs false
set_option linter.unusedVariables false
attribute [local congr] vw_congr runV_congr runH_congr runW_congr runX_congr stuckV_congr stuckX_congr

theorem bs_len (s : ByteArray) : s.data.toList.length = s.size := Array.length_toList
def lowB (b : UInt8) : Bool := decide (97 ≤ (b.toNat : Int)) && decide ((b.toNat : Int) ≤ 122)
def nameOk (s : ByteArray) : Bool := s.data.toList.all lowB && inB s.size 1 6
theorem getD_of {α : Type} {l : List α} {i : Nat} {x d : α} (h : l[i]? = some x) : l.getD i d = x := by
  rw [List.getD_eq_getElem?_getD, h]; rfl
theorem all_bad {s : ByteArray} {i : Nat} {b : UInt8} (h : s.data.toList[i]? = some b) (hb : lowB b = false) : nameOk s = false := by
  have : s.data.toList.all lowB = false := by
    rw [List.all_eq_false]
    exact ⟨b, List.mem_of_getElem? h, by simp [hb]⟩
  simp [nameOk, this]

theorem runs_88 (s : ByteArray) (hs : s.size < 2 ^ 62) : Runs Tryz.prog 88 [.one (.v (.str s))] [.one (.v (.bool (nameOk s)))] [] := by
  refine runs_tab (tab := [(0, .c (.str s))]) (rts := []) (n := 23) (k := 1) Tryz.func88 rfl rfl (by simp) rfl (fun t => ?_) rfl ?_
  · rcases t with _ | t <;> rfl
  (refine vw_go rfl ?_; simp only [go_sem, setCells, setIn])
  refine vw_seq ?_
  (refine vw_go rfl ?_; simp only [go_sem, setCells, setIn])
  refine vw_block ?_
  refine vw_loop_tab (α := Nat) (fun x => s.size - x) (fun x => ⟨tabE [(0, .c (.str s)), (3, .c (.int .i64 x))], tabS [], 1⟩)
    (fun x => x ≤ s.size ∧ (s.data.toList.drop x).all lowB = s.data.toList.all lowB) (x := 0) ?round ?h0 ?hn
  case h0 => exact ⟨Nat.zero_le _, rfl⟩
  case hn => (refine norm_to [] rfl ?_ ?_ <;> simp only [go_sem])
  rintro i ⟨hi, hm⟩
  refine vw_seq ?_
  (refine vw_go rfl ?_; simp only [go_sem, setCells, setIn])
  refine vw_cond (t := decide ((i : Int) < s.size)) rfl (fun h => ?_) (fun h => ?_)
  · refine vw_skip (n_then ?_)
    rcases get_or s.data.toList i with ⟨b, hx, hlt⟩ | ⟨_, hge⟩
    case inr => simp only [decide_eq_true_eq] at h; rw [bs_len] at hge; omega
    rw [bs_len] at hlt
    have c1 : (0:Int) ≤ (i:Int) := by omega
    have c2 : (i:Int) < (s.size : Int) := by omega
    have g := getD_of (d := 0) hx
    rw [drop_of hx, List.all_cons] at hm
    refine vw_seq ?_
    refine vw_block ?_
    by_cases a1 : ((b.toNat : Int) < 97)
    · (refine vw_go rfl ?_; simp only [c1, c2, Int.toNat_natCast, g, a1, go_sem, setCells, setIn])
      refine vw_cond (t := true) rfl (fun h => ?_) (fun h => ?_)
      case refine_2 => cases h
      (refine vw_go rfl ?_; simp only [go_sem, setCells, setIn])
      rw [all_bad hx (by simp [lowB]; omega)]
      exact vw_ret (r_block (r_then (r_then (r_block (r_then (e_ret (ret_of rfl rfl (by simp [RB]) rfl rfl)))))))
    · (refine vw_go rfl ?_; simp only [c1, c2, Int.toNat_natCast, g, a1, go_sem, setCells, setIn])
      refine vw_cond (t := decide (122 < (b.toNat : Int))) rfl (fun h => ?_) (fun h => ?_)
      · (refine vw_go rfl ?_; simp only [go_sem, setCells, setIn])
        simp only [decide_eq_true_eq] at h
        rw [all_bad hx (by simp [lowB]; omega)]
        exact vw_ret (r_block (r_then (r_then (r_block (r_then (e_ret (ret_of rfl rfl (by simp [RB]) rfl rfl)))))))
      · refine vw_skip (n_block (n_then ?_))
        have w2 : IntKind.wrap .i64 ((i:Int) + 1) = ((i + 1 : Nat) : Int) := by rw [wrap_i64 (by omega) (by omega)]; rfl
        (refine vw_last rfl ?_; simp only [w2, go_sem, setCells, setIn])
        refine (n_then ?_)
        simp only [decide_eq_false_iff_not] at h
        rw [show lowB b = true from by simp [lowB]; omega, Bool.true_and] at hm
        refine ⟨i + 1, by omega, ⟨by omega, hm⟩, ?_⟩
        (refine norm_to [] rfl ?_ ?_ <;> simp only [go_sem])
  · refine vw_exit (x_then (x_then (x_block (n_then ?_))))
    simp only [decide_eq_false_iff_not] at h
    have : i = s.size := by omega
    subst this
    rw [← bs_len, List.drop_length, List.all_nil] at hm
    (refine vw_go rfl ?_; simp only [go_sem, setCells, setIn])
    (refine ⟨_, _, call_rd [0, 0, 0] Tryz.func61 (runs_61 (s.size : Int) 1 6) rfl rfl rfl rfl rfl rfl rfl rfl rfl rfl rfl rfl rfl, ?_⟩)
    simp only [runH, runX, go_sem, setCells, setIn]
    rw [show nameOk s = inB s.size 1 6 from by simp [nameOk, ← hm]]
    exact vw_ret (e_ret (ret_of rfl rfl (by simp [RB]) rfl rfl))

theorem runs_95 (s : ByteArray) (hs : s.size < 2 ^ 62) : Runs Tryz.prog 95 [.one (.v (.str s))] [.one (.v (.bool (nameOk s)))] [] := by
  refine runs_tab (tab := [(0, .c (.str s))]) (rts := []) (n := 23) (k := 1) Tryz.func95 rfl rfl (by simp) rfl (fun t => ?_) rfl ?_
  · rcases t with _ | t <;> rfl
  (refine vw_go rfl ?_; simp only [go_sem, setCells, setIn])
  refine vw_seq ?_
  (refine vw_go rfl ?_; simp only [go_sem, setCells, setIn])
  refine vw_block ?_
  refine vw_loop_tab (α := Nat) (fun x => s.size - x) (fun x => ⟨tabE [(0, .c (.str s)), (5, .c (.int .i64 s.size)), (6, .c (.int .i64 x))], tabS [], 1⟩)
    (fun x => x ≤ s.size ∧ (s.data.toList.drop x).all lowB = s.data.toList.all lowB) (x := 0) ?round ?h0 ?hn
  case h0 => exact ⟨Nat.zero_le _, rfl⟩
  case hn => (refine norm_to [] rfl ?_ ?_ <;> simp only [go_sem])
  rintro i ⟨hi, hm⟩
  (refine vw_go rfl ?_; simp only [go_sem, setCells, setIn])
  refine vw_seq ?_
  refine vw_cond (t := decide ((i : Int) < s.size)) rfl (fun h => ?_) (fun h => ?_)
  · refine vw_skip (n_then ?_)
    rcases get_or s.data.toList i with ⟨b, hx, hlt⟩ | ⟨_, hge⟩
    case inr => simp only [decide_eq_true_eq] at h; rw [bs_len] at hge; omega
    rw [bs_len] at hlt
    have c1 : (0:Int) ≤ (i:Int) := by omega
    have c2 : (i:Int) < (s.size : Int) := by omega
    have g := getD_of (d := 0) hx
    rw [drop_of hx, List.all_cons] at hm
    refine vw_seq ?_
    refine vw_block ?_
    (refine vw_go rfl ?_; simp only [go_sem, setCells, setIn])
    by_cases a1 : ((b.toNat : Int) < 97)
    · (refine vw_go rfl ?_; simp only [c1, c2, Int.toNat_natCast, g, a1, go_sem, setCells, setIn])
      refine vw_cond (t := true) rfl (fun h => ?_) (fun h => ?_)
      case refine_2 => cases h
      (refine vw_go rfl ?_; simp only [go_sem, setCells, setIn])
      rw [all_bad hx (by simp [lowB]; omega)]
      exact vw_ret (r_block (r_then (r_then (r_block (r_then (e_ret (ret_of rfl rfl (by simp [RB]) rfl rfl)))))))
    · (refine vw_go rfl ?_; simp only [c1, c2, Int.toNat_natCast, g, a1, go_sem, setCells, setIn])
      refine vw_cond (t := decide (122 < (b.toNat : Int))) rfl (fun h => ?_) (fun h => ?_)
      · (refine vw_go rfl ?_; simp only [go_sem, setCells, setIn])
        simp only [decide_eq_true_eq] at h
        rw [all_bad hx (by simp [lowB]; omega)]
        exact vw_ret (r_block (r_then (r_then (r_block (r_then (e_ret (ret_of rfl rfl (by simp [RB]) rfl rfl)))))))
      · refine vw_skip (n_block (n_then ?_))
        have w2 : IntKind.wrap .i64 ((i:Int) + 1) = ((i + 1 : Nat) : Int) := by rw [wrap_i64 (by omega) (by omega)]; rfl
        (refine vw_last rfl ?_; simp only [w2, go_sem, setCells, setIn])
        refine (n_then ?_)
        simp only [decide_eq_false_iff_not] at h
        rw [show lowB b = true from by simp [lowB]; omega, Bool.true_and] at hm
        refine ⟨i + 1, by omega, ⟨by omega, hm⟩, ?_⟩
        (refine norm_to [] rfl ?_ ?_ <;> simp only [go_sem])
  · refine vw_exit (x_then (x_then (x_block (n_then ?_))))
    simp only [decide_eq_false_iff_not] at h
    have : i = s.size := by omega
    subst this
    rw [← bs_len, List.drop_length, List.all_nil] at hm
    (refine vw_go rfl ?_; simp only [go_sem, setCells, setIn])
    (refine ⟨_, _, call_rd [0, 0, 0] Tryz.func66 (runs_66 (s.size : Int) 1 6) rfl rfl rfl rfl rfl rfl rfl rfl rfl rfl rfl rfl rfl, ?_⟩)
    simp only [runH, runX, go_sem, setCells, setIn]
    rw [show nameOk s = inB s.size 1 6 from by simp [nameOk, ← hm]]
    exact vw_ret (e_ret (ret_of rfl rfl (by simp [RB]) rfl rfl))
end Go.Proofs.YtoenfbbadfcfpaaGreatDoor
namespace Go.VM
open Go
/-- A region of open order, its list of operations named. -/
theorem vw_drawA {P : Program} {n K id : Nat} {l : List Oper} {y : Code} {Q : Exit → FS → Prop} {env : Nat → VV} {st : St} {nx : Nat} (hm : P.follows .mixedOrders = true) (hd : regOk n l = true) (he : edgesOk l.toArray = true)
    (h : ∀ A : Array Oper, A = l.toArray → runW P A nx 0 l env st [] (fun its env st => allOk l its ∧ VW P n K y Q ⟨env, st, nx + 65536⟩)) : VW P n K (.seq (.region id l.toArray true) y) Q ⟨env, st, nx⟩ :=
  vw_draw hm hd he (h _ rfl)
theorem vw_drawA_last {P : Program} {n K id : Nat} {l : List Oper} {Q : Exit → FS → Prop} {env : Nat → VV} {st : St} {nx : Nat} (hm : P.follows .mixedOrders = true) (hd : regOk n l = true) (he : edgesOk l.toArray = true)
    (h : ∀ A : Array Oper, A = l.toArray → runW P A nx 0 l env st [] (fun its env st => allOk l its ∧ Q .normal ⟨env, st, nx + 1024 * l.toArray.size⟩)) : VW P n K (.region id l.toArray true) Q ⟨env, st, nx⟩ :=
  vw_draw_last hm hd he (h _ rfl)
theorem runW_step (P : Program) (ops : Array Oper) (nx i : Nat) (o : Oper) (l : List Oper) (env : Nat → VV) (st : St) (acc : List It) (K : List It → (Nat → VV) → St → Prop) :
    runW P ops nx i (o :: l) env st acc K =
      match wantedV ops o env with
      | some true =>
        (match isCall o with
        | true => ∃ v u rd, OpAt P (nx + 1024 * i) o rd env st ⟨v, u⟩ ∧ runX P ops nx (i + 1) l (dstE env o.dst v) (st.ups u) (acc ++ [⟨o.dst, v, u, o.looksAt ops, rd⟩]) K
        | false => match vop P (nx + 1024 * i) o env st with
          | some e => runW P ops nx (i + 1) l (dstE env o.dst e.v) (st.ups e.ups) (acc ++ [⟨o.dst, e.v, e.ups, o.looksAt ops, readsOf env o⟩]) K
          | none => stuckX P ops nx i o l env st acc K)
      | some false => runW P ops nx (i + 1) l (dstE env o.dst (.tup [])) st (acc ++ [⟨o.dst, .tup [], [], o.looksAt ops, []⟩]) K
      | none => False := (rfl)
end Go.VM
namespace Go.Proofs.YtoenfbbadfcfpaaGreatDoor
open Go.VM Go
set_option maxRecDepth 100000
set_option maxHeartbeats 2000000
set_option linter.unusedSimpArgs false
set_option linter.unusedVariables false
attribute [-go_sem] runW_cons
attribute [local congr] vw_congr runV_congr runH_congr runW_congr runX_congr stuckV_congr stuckX_congr

structure NodeV where
  dir : Bool
  names : List ByteArray
  kids : List Int
  data : ByteArray
def hasK (l : List Int) (p : Int) : Bool := l.any fun x => decide (p = x)
def nodeAtOk (n : NodeV) (i : Nat) : Bool := nameOk (n.names.getD i ⟨#[]⟩) && (inB (n.kids.getD i 0) 1 11 && ((decide (i = 0) || Op.bytesLess (n.names.getD (i - 1) ⟨#[]⟩).toList (n.names.getD i ⟨#[]⟩).toList) && !hasK (n.kids.take i) (n.kids.getD i 0)))
def nodeOk (n : NodeV) : Bool :=
  if n.dir = true then decide (n.names.length = n.kids.length) && (decide (n.data = ⟨#[]⟩) && (List.range n.names.length).all (nodeAtOk n))
  else decide (n.names.length = 0) && (decide (n.kids.length = 0) && decide (n.data.size ≤ 60))
structure NodeV.small (n : NodeV) : Prop where
  names : n.names.length < 2 ^ 61
  kids : n.kids.length < 2 ^ 61
  text : ∀ s ∈ n.names, s.size < 2 ^ 62

end Go.Proofs.YtoenfbbadfcfpaaGreatDoor
namespace Go.Proofs.YtoenfbbadfcfpaaGreatDoor
open Go.VM Go
set_option maxRecDepth 100000
set_option linter.unusedSimpArgs false
set_option linter.unusedVariables false
attribute [local congr] vw_congr runV_congr runH_congr runW_congr runX_congr stuckV_congr stuckX_congr

def kidB (y : Int) : UInt8 := UInt8.ofNat (48 + y.toNat)
def bodyTo (n : NodeV) : Nat → ByteArray
  | 0 => ⟨#[100]⟩
  | i + 1 => ((bodyTo n i ++ n.names.getD i ⟨#[]⟩) ++ ⟨#[61]⟩) ++ ⟨#[kidB (n.kids.getD i 0)]⟩
def nodeText (n : NodeV) : ByteArray := if nodeOk n = true then (if n.dir = true then bodyTo n n.names.length else ⟨#[102]⟩ ++ n.data) else ⟨#[]⟩
end Go.Proofs.YtoenfbbadfcfpaaGreatDoor
namespace Go.Proofs.YtoenfbbadfcfpaaGreatDoor
open Go.VM Go
set_option maxRecDepth 100000
set_option linter.unusedSimpArgs false
set_option linter.unusedVariables false
attribute [local congr] vw_congr runV_congr runH_congr runW_congr runX_congr stuckV_congr stuckX_congr

theorem take_snocR {α β : Type} (f : α → β) (l : List α) (x : β) : List.take (l.length + 1) (l.map f ++ [x]) = l.map f ++ [x] := List.take_of_length_le (by simp)
theorem drop_snocR {α : Type} (l : List α) (x : α) : List.drop (l.length + 1) (l ++ [x]) = [] := List.drop_eq_nil_of_le (by simp)
def chr (s : ByteArray) (i : Nat) : UInt8 := s.data.toList.getD i 0
def nrGo (s : ByteArray) : Nat → Nat → Nat → List ByteArray → List Int → List ByteArray × List Int
  | 0, _, _, a, b => (a, b)
  | n + 1, i, fr, a, b => if i + 1 < s.size then (if chr s i = 61 then nrGo s n (i + 2) (i + 2) (a ++ [s.extract fr i]) (b ++ [((chr s (i + 1)).toNat : Int) - 48]) else nrGo s n (i + 1) fr a b) else (a, b)
def nodeZ : NodeV := ⟨false, [], [], ⟨#[]⟩⟩
def nodeRaw (s : ByteArray) : NodeV := if chr s 0 = 102 then ⟨false, [], [], s.extract 1 s.size⟩ else ⟨true, (nrGo s s.size 1 1 [] []).1, (nrGo s s.size 1 1 [] []).2, ⟨#[]⟩⟩
def nodeRead (s : ByteArray) : NodeV × Bool := if s.size = 0 then (nodeZ, false) else if nodeText (nodeRaw s) = s then (nodeRaw s, true) else (nodeZ, false)
/-- What stands in the node before its text is compared. -/
structure RawFit (s : ByteArray) (z : NodeV) : Prop where
  names : z.names.length ≤ 2 ^ 20
  kids : z.kids.length ≤ 2 ^ 20
  text : ∀ x ∈ z.names, x.size ≤ 2 ^ 20
  data : z.data.size ≤ 2 ^ 20
  yes : nodeText z = s → nodeRead s = (z, true)
  no : nodeText z ≠ s → nodeRead s = (nodeZ, false)
theorem RawFit.small {s : ByteArray} {z : NodeV} (h : RawFit s z) : z.small :=
  ⟨Nat.lt_of_le_of_lt h.names (by decide), Nat.lt_of_le_of_lt h.kids (by decide), fun x hx => Nat.lt_of_le_of_lt (h.text x hx) (by decide)⟩
theorem size0 {s : ByteArray} : s = ⟨#[]⟩ ↔ s.size = 0 := by
  constructor
  · intro h; rw [h]; rfl
  · intro h; apply ByteArray.ext; exact Array.eq_empty_of_size_eq_zero h

end Go.Proofs.YtoenfbbadfcfpaaGreatDoor
namespace Go.Proofs.YtoenfbbadfcfpaaGreatDoor
open Go.VM Go
set_option maxRecDepth 100000
set_option linter.unusedSimpArgs false
set_option linter.unusedVariables false
attribute [local congr] vw_congr runV_congr runH_congr runW_congr runX_congr stuckV_congr stuckX_congr

def kidIx : List ByteArray → List Int → ByteArray → Nat → Int
  | a :: xs, _ :: ys, s, i => if a = s then (i : Int) else kidIx xs ys s (i + 1)
  | _, _, _, _ => -1
theorem runs_125 (n : NodeV) (h1 : n.names.length < 2 ^ 60) (h2 : n.kids.length < 2 ^ 60) (s : ByteArray) :
    Runs Tryz.prog 125 [.agg [.v (.bool n.dir), .v (.list false 1 (n.names.map sRow)), .v (.list false 1 (n.kids.map nRow)), .v (.str n.data)], .one (.v (.str s))] [.one (.v (.int .i64 (kidIx n.names n.kids s 0)))] [] := by
  refine runs_tab (tab := [(0, .agg [.c (.bool n.dir), .c (.list false 1 (n.names.map sRow)), .c (.list false 1 (n.kids.map nRow)), .c (.str n.data)]), (1, .c (.str s))]) (rts := []) (n := 28) (k := 5) Tryz.func125 rfl rfl (by simp) rfl (fun t => ?_) rfl ?_
  · rcases t with _ | _ | t <;> rfl
  (refine vw_go rfl ?_; simp only [go_sem, setCells, setIn])
  refine vw_seq ?_
  (refine vw_go rfl ?_; simp only [go_sem, setCells, setIn])
  refine vw_block ?_
  refine vw_loop_tab (α := Nat) (fun x => n.names.length - x) (fun x => ⟨tabE [(1, .c (.str s)), (2, .ptr 5 [] 0 0 0), (5, .c (.int .i64 x))], tabS [(5, some ⟨true, 4, [[.bool n.dir, .list false 1 (n.names.map sRow), .list false 1 (n.kids.map nRow), .str n.data]], []⟩)], 6⟩)
    (fun x => x ≤ n.names.length ∧ kidIx (n.names.drop x) (n.kids.drop x) s x = kidIx n.names n.kids s 0) (x := 0) ?round ?h0 ?hn
  case h0 => exact ⟨Nat.zero_le _, rfl⟩
  case hn => (refine norm_to [(5, 5)] rfl ?_ ?_ <;> simp only [go_sem])
  rintro i ⟨hi, hg⟩
  refine vw_seq ?_
  by_cases hc : (i : Int) < n.names.length
  case neg =>
    rw [List.drop_eq_nil_of_le (show n.names.length ≤ i by omega)] at hg
    have e : kidIx [] (n.kids.drop i) s i = -1 := by unfold kidIx; rfl
    rw [← hg, e]
    (refine vw_go rfl ?_; simp only [hc, go_sem, setCells, setIn])
    (refine vw_cond (t := false) rfl (fun h => nomatch h) (fun _ => ?_))
    refine vw_exit (x_then (x_then (x_block (n_then ?_))))
    (refine vw_go rfl ?_; simp only [go_sem, setCells, setIn])
    exact vw_ret (e_ret (ret_of rfl rfl (by simp [RB]) rfl rfl))
  have hin : i < n.names.length := by omega
  by_cases hk : (i : Int) < n.kids.length
  case neg =>
    rw [List.drop_eq_nil_of_le (show n.kids.length ≤ i by omega), List.drop_eq_getElem_cons hin] at hg
    have e : ∀ a xs, kidIx (a :: xs) [] s i = -1 := fun a xs => by unfold kidIx; rfl
    rw [← hg, e]
    (refine vw_go rfl ?_; simp only [hc, hk, go_sem, setCells, setIn])
    (refine vw_cond (t := false) rfl (fun h => nomatch h) (fun _ => ?_))
    refine vw_exit (x_then (x_then (x_block (n_then ?_))))
    (refine vw_go rfl ?_; simp only [go_sem, setCells, setIn])
    exact vw_ret (e_ret (ret_of rfl rfl (by simp [RB]) rfl rfl))
  have hik : i < n.kids.length := by omega
  obtain ⟨a, ha⟩ : ∃ a, n.names[i]? = some a := ⟨_, List.getElem?_eq_getElem hin⟩
  have hda : n.names.drop i = a :: n.names.drop (i + 1) := by
    rw [List.drop_eq_getElem_cons hin]
    congr 1
    rw [List.getElem?_eq_getElem hin] at ha
    exact Option.some.inj ha
  rw [hda, List.drop_eq_getElem_cons hik, kidIx] at hg
  have d0 : (0:Int) ≤ (i : Int) := by omega
  have w3 : IntKind.wrap .i64 ((i:Int) + 1) = ((i + 1 : Nat) : Int) := by rw [wrap_i64 (by omega) (by omega)]; rfl
  (refine vw_go rfl ?_; simp only [hc, hk, go_sem, setCells, setIn])
  (refine vw_cond (t := true) rfl (fun _ => ?_) (fun h => nomatch h))
  refine vw_skip (n_then ?_)
  refine vw_seq ?_
  refine vw_block ?_
  (refine vw_go rfl ?_; simp only [d0, hc, Int.toNat_natCast, getD_map_of ha, sRow, go_sem, setCells, setIn])
  by_cases has : a = s
  · rw [if_pos has] at hg
    rw [← hg]
    refine vw_cond (t := true) (by simp [ev, tabE_cons, has]) (fun _ => ?_) (fun h => nomatch h)
    (refine vw_go rfl ?_; simp only [go_sem, setCells, setIn])
    exact vw_ret (r_block (r_then (r_then (r_block (r_then (e_ret (ret_of rfl rfl (by simp [RB]) rfl rfl)))))))
  · rw [if_neg has] at hg
    refine vw_cond (t := false) (by simp [ev, tabE_cons, has]) (fun h => nomatch h) (fun _ => ?_)
    refine vw_skip (n_block (n_then ?_))
    (refine vw_last rfl ?_; simp only [w3, go_sem, setCells, setIn])
    refine (n_then ?_)
    refine ⟨i + 1, by omega, ⟨by omega, hg⟩, ?_⟩
    (refine norm_to [(5, 5)] rfl ?_ ?_ <;> simp only [go_sem])

end Go.Proofs.YtoenfbbadfcfpaaGreatDoor
namespace Go.Proofs.YtoenfbbadfcfpaaGreatDoor
open Go.VM Go
set_option maxRecDepth 100000
set_option linter.unusedSimpArgs false
set_option linter.unusedVariables false
attribute [local congr] vw_congr runV_congr runH_congr runW_congr runX_congr stuckV_congr stuckX_congr

def met0 : List Bool := List.replicate 12 false
@[simp] theorem met0_len : met0.length = 12 := rfl
end Go.Proofs.YtoenfbbadfcfpaaGreatDoor
namespace Go.VM
open Go
theorem call_prim2 {P : Program} {fid : Nat} {o : Oper} {env : Nat → VV} {st : St} {c : Call} {g : Operand} {f : FuncId} {fn : Func} {e : Array Value → Sem Value} {x y : Operand} {s : ByteArray} {b n : Int}
    (t1 t2 : TypeId) (hf : P.funcs[f]? = some fn) (hb : fn.body.isNone = true) (hname : (fn.name == "runtime.NumGoroutine") = false) (hn : Extern.findNext fn = none) (he : Extern.find fn = some e)
    (hrun : ∀ w : World, (e #[.string s, .int .u8 b]).run P w = .ok (.int .i64 n) w) (hop : o.op = .call c) (hcal : c.callee = .value g) (hg : ev P env 0 g = .fn f []) (hargs : c.args = #[x, y])
    (hx : ev P env t1 x = .c (.str s)) (hy : ev P env t2 y = .c (.int .u8 b)) :
    OpOk P fid o env st ⟨.c (.int .i64 n), []⟩ := by
  intro w ow bs fr a hr hE hroom next Q hk
  have hgv := ev_rel (P := P) hE 0 g
  rw [hg] at hgv
  obtain ⟨vs, hgeq, hvl⟩ : ∃ vs : Array Value, a.eval g = .func (.func f) #[] vs ∧ 0 = vs.size := by
    generalize a.eval g = z at hgv
    cases hgv with | fn hl hh => exact ⟨_, rfl, hl⟩
  obtain rfl : vs = #[] := Array.eq_empty_of_size_eq_zero hvl.symm
  have h1 := ev_rel (P := P) hE t1 x
  have h2 := ev_rel (P := P) hE t2 y
  rw [hx] at h1
  rw [hy] at h2
  have e1 : a.eval x = .string s := by
    generalize a.eval x = z at h1
    cases h1 with | c h => cases h with | str => rfl
  have e2 : a.eval y = .int .u8 b := by
    generalize a.eval y = z at h2
    cases h2 with | c h => cases h with | int => rfl
  have hcf := run_callFunc_extern hf hname hb hn he #[.string s, .int .u8 b] w
  rw [hrun w] at hcf
  have hrun' : (execOp a.eval o).run P w = .ok (.value (.int .i64 n)) w := by
    have : (execOp a.eval o).run P w = (callFunc f #[.string s, .int .u8 b]).run P w := by
      simp [execOp, hop, resolve, hcal, hgeq, Deferred.ofValue, invoke, hargs, e1, e2]
    rw [this, hcf]
    rfl
  have hd : Does w ow bs st fr (minus fr fid) ((execOp a.eval o).run P w) (.c (.int .i64 n)) st := Does.pure hr (fun r h => h.1) hrun' (.c .int)
  obtain ⟨val, w', ow', bs', k1, k2, k3, k4, k5⟩ := hd
  have hn' := hk val w' ow' bs' k4 k2 k3 k5
  unfold Oper.wp
  rcases k1 with k1 | ⟨k1, rfl⟩
  · rw [k1, Oper.upon_value]; exact hn'
  · rw [k1, Oper.upon_skip]; exact hn'
end Go.VM
