/- Tell values: trees, and the walks of their size, their copy, their comparing (one; a slice). Printed by a program (tfun.py). -/
import Derived.Test.YtppbonbghmdhhaaPFBase
namespace Go.Proofs.Ytppbonbghmdhhaa
open Go.VM
set_option maxRecDepth 100000
set_option linter.unusedSimpArgs false
set_option linter.unusedVariables false
attribute [local congr] vw_congr runV_congr runH_congr runW_congr runX_congr

structure TellV where
  code : Int
  text : ByteArray
  deriving DecidableEq
def tellRow (x : TellV) : List T := [.int .i64 x.code, .str x.text]
def zTell : List T := [.int .i64 0, .str ⟨#[]⟩]
def TellV.ok (x : TellV) : Prop := x.text.size < 2 ^ 63
theorem tellRow_r1 (x : TellV) : (tellRow x).map T.toRO = tellRow x := by simp [tellRow]
theorem tellRow_clean (l : List TellV) : cleanRs (l.map tellRow) = true := clean_map (fun x => rfl) l
def szTell (x : TellV) (left : Int) : Int := if left - x.text.size < 0 then -1 else left - x.text.size
theorem szTell_le (x : TellV) (left : Int) (h : 0 ≤ left) : szTell x left ≤ left := by
  unfold szTell; (repeat' split) <;> omega
theorem runs_196 (x : TellV) (left : Int) (hx : x.ok) (h0 : 0 ≤ left) (h1 : left < 2 ^ 63) : Runs Try.prog 196 [.agg [.v (.int .i64 x.code), .v (.str x.text)], .one (.v (.int .i64 left))] [.one (.v (.int .i64 (szTell x left)))] [] := by
  simp only [TellV.ok] at hx
  refine runs_tab (tab := [(0, .agg [.c (.int .i64 x.code), .c (.str x.text)]), (1, .c (.int .i64 left))]) (rts := []) (n := 13) (k := 3) Try.func196 rfl rfl (by simp) rfl (fun t => ?_) rfl ?_
  · rcases t with _ | _ | t <;> rfl
  (refine vw_go rfl ?_; simp only [go_sem, setCells, setIn])
  have w0 : IntKind.wrap .i64 (left - x.text.size) = left - x.text.size := wrap_i64 (by omega) (by omega)
  (refine vw_go rfl ?_; simp only [w0, go_sem, setCells, setIn])
  refine vw_seq ?_
  (refine vw_go rfl ?_; simp only [go_sem, setCells, setIn])
  refine vw_cond (t := decide (left - x.text.size < 0)) rfl (fun g0 => ?_) (fun g0 => ?_)
  · (refine vw_go rfl ?_; simp only [go_sem, setCells, setIn])
    simp only [decide_eq_true_eq] at g0
    rw [show szTell x left = -1 from by simp [szTell, g0]]
    exact vw_ret (r_then (e_ret (ret_of rfl rfl (by simp [RB]) rfl rfl)))
  refine vw_skip (n_then ?_)
  simp only [decide_eq_false_iff_not] at g0
  (refine vw_go rfl ?_; simp only [go_sem, setCells, setIn])
  rw [show szTell x left = left - x.text.size from by simp [szTell, g0]]
  exact vw_ret (e_ret (ret_of rfl rfl (by simp [RB]) rfl rfl))

def szLTell : List TellV → Int → Int
  | [], left => left
  | x :: l, left => if szTell x left < 0 then -1 else szLTell l (szTell x left)
def szSTell (l : List TellV) (left : Int) : Int := if left - l.length < 0 then -1 else szLTell l (left - l.length)
theorem szLTell_le : ∀ (l : List TellV) (left : Int), 0 ≤ left → szLTell l left ≤ left
  | [], left, h => Int.le_refl _
  | x :: l, left, h => by
    have h1 := szTell_le x left h
    simp only [szLTell]
    split
    · omega
    · have := szLTell_le l (szTell x left) (by omega)
      omega
theorem szSTell_le (l : List TellV) (left : Int) (h : 0 ≤ left) : szSTell l left ≤ left := by
  unfold szSTell
  split
  · omega
  · have := szLTell_le l (left - l.length) (by omega)
    omega
theorem szSTell_len {l : List TellV} {left : Int} (h : ¬ szSTell l left < 0) : (l.length : Int) ≤ left := by
  unfold szSTell at h
  split at h
  · exact absurd (by decide) h
  · omega
theorem runs_171 (l : List TellV) (left : Int) (hb : ∀ x ∈ l, x.ok) (hl : l.length < 2 ^ 63) (h0 : 0 ≤ left) (h1 : left < 2 ^ 63) :
    Runs Try.prog 171 [.one (.v (.list false 2 (l.map tellRow))), .one (.v (.int .i64 left))] [.one (.v (.int .i64 (szSTell l left)))] [] := by
  refine runs_tab (tab := [(0, .c (.list false 2 (l.map tellRow))), (1, .c (.int .i64 left))]) (rts := []) (n := 27) (k := 2) Try.func171 rfl rfl (by simp) rfl (fun t => ?_) rfl ?_
  · rcases t with _ | _ | t <;> rfl
  have w1 : IntKind.wrap .i64 (left - l.length) = left - l.length := wrap_i64 (by omega) (by omega)
  (refine vw_go rfl ?_; simp only [go_sem, setCells, setIn])
  (refine vw_go rfl ?_; simp only [w1, go_sem, setCells, setIn])
  refine vw_seq ?_
  (refine vw_go rfl ?_; simp only [go_sem, setCells, setIn])
  refine vw_cond (t := decide (left - l.length < 0)) rfl (fun h => ?_) (fun h => ?_)
  · (refine vw_go rfl ?_; simp only [go_sem, setCells, setIn])
    simp only [decide_eq_true_eq] at h
    rw [show szSTell l left = -1 from by simp [szSTell, h]]
    exact vw_ret (r_then (e_ret (ret_of rfl rfl (by simp [RB]) rfl rfl)))
  · refine vw_skip (n_then ?_)
    simp only [decide_eq_false_iff_not] at h
    have hA := h
    refine vw_seq ?_
    (refine vw_go rfl ?_; simp only [go_sem, setCells, setIn])
    refine vw_block ?_
    refine vw_loop_tab (α := Nat × Int) (fun x => l.length - x.1) (fun x => ⟨tabE [(0, .c (.list false 2 (l.map tellRow))), (1, .c (.int .i64 x.2)), (5, .c (.int .i64 x.1))], tabS [], 2⟩)
      (fun x => x.1 ≤ l.length ∧ 0 ≤ x.2 ∧ x.2 < 2 ^ 63 ∧ szLTell (l.drop x.1) x.2 = szLTell l (left - l.length)) (x := (0, left - l.length)) ?round ?h0 ?hn
    case h0 => exact ⟨Nat.zero_le _, by simp only; omega, by simp only; omega, rfl⟩
    case hn => (refine norm_to [] rfl ?_ ?_ <;> simp only [go_sem])
    rintro ⟨i, m⟩ ⟨hi, hm0, hm1, hm⟩
    simp only at hi hm0 hm1 hm
    refine vw_seq ?_
    (refine vw_go rfl ?_; simp only [go_sem, setCells, setIn])
    refine vw_cond (t := decide ((i : Int) < l.length)) rfl (fun h => ?_) (fun h => ?_)
    · refine vw_skip (n_then ?_)
      rcases get_or l i with ⟨x, hx, hlt⟩ | ⟨_, hge⟩
      case inr => simp only [decide_eq_true_eq] at h; omega
      have hxb := hb x (List.mem_of_getElem? hx)
      refine vw_seq ?_
      refine vw_block ?_
      have c1 : (0:Int) ≤ (i:Int) := by omega
      have c2 : (i:Int) < (l.length : Int) := by omega
      (refine vw_go rfl ?_; simp only [c1, c2, Int.toNat_natCast, getD_map_of hx, tellRow, go_sem, setCells, setIn])
      (refine ⟨_, _, call_rd [0, 0] Try.func196 (runs_196 x m hxb hm0 hm1) rfl rfl rfl rfl rfl rfl rfl rfl rfl rfl rfl rfl rfl, ?_⟩)
      simp only [runH, runX, go_sem, setCells, setIn]
      (refine vw_go rfl ?_; simp only [go_sem, setCells, setIn])
      refine vw_cond (t := decide (szTell x m < 0)) rfl (fun h => ?_) (fun h => ?_)
      · (refine vw_go rfl ?_; simp only [go_sem, setCells, setIn])
        rw [drop_of hx] at hm
        simp only [decide_eq_true_eq] at h
        simp only [szLTell, h, if_true] at hm
        rw [show szSTell l left = -1 from by simp [szSTell, hA, ← hm]]
        exact vw_ret (r_block (r_then (r_then (r_block (r_then (e_ret (ret_of rfl rfl (by simp [RB]) rfl rfl)))))))
      · refine vw_skip (n_block (n_then ?_))
        have w2 : IntKind.wrap .i64 ((i:Int) + 1) = ((i + 1 : Nat) : Int) := by rw [wrap_i64 (by omega) (by omega)]; rfl
        (refine vw_last rfl ?_; simp only [w2, go_sem, setCells, setIn])
        refine (n_then ?_)
        simp only [decide_eq_false_iff_not] at h
        rw [drop_of hx] at hm
        simp only [szLTell, h, if_false] at hm
        have := szTell_le x m hm0
        refine ⟨(i + 1, szTell x m), by simp only; omega, ⟨by simp only; omega, by simp only; omega, by simp only; omega, hm⟩, ?_⟩
        (refine norm_to [] rfl ?_ ?_ <;> simp only [go_sem])
    · refine vw_exit (x_then (x_then (x_block (n_then ?_))))
      (refine vw_go rfl ?_; simp only [go_sem, setCells, setIn])
      simp only [decide_eq_false_iff_not] at h
      have : i = l.length := by omega
      subst this
      simp only [List.drop_length, szLTell] at hm
      rw [show szSTell l left = m from by simp [szSTell, hA, ← hm]]
      exact vw_ret (e_ret (ret_of rfl rfl (by simp [RB]) rfl rfl))

theorem runs_199 (x : TellV) : Runs Try.prog 199 [.agg [.v (.int .i64 x.code), .v (.str x.text)]] [.agg [.v (.int .i64 x.code), .v (.str x.text)]] [] := by
  refine runs_tab (tab := [(0, .agg [.c (.int .i64 x.code), .c (.str x.text)])]) (rts := []) (n := 11) (k := 2) Try.func199 rfl rfl (by simp) rfl (fun t => ?_) rfl ?_
  · cases t <;> rfl
  (refine vw_go rfl ?_; simp only [go_sem, setCells, setIn])
  (refine vw_go rfl ?_; simp only [go_sem, setCells, setIn])
  (refine vw_go rfl ?_; simp only [go_sem, setCells, setIn])
  (refine vw_go rfl ?_; simp only [go_sem, setCells, setIn])
  (refine vw_go rfl ?_; simp only [go_sem, setCells, setIn])
  exact vw_ret (e_ret (ret_of rfl rfl (by simp [RB]) rfl rfl))

theorem runs_174 (l : List TellV) (hl : l.length ≤ 2 ^ 20) :
    Runs Try.prog 174 [.one (.v (.list false 2 (l.map tellRow)))] [.one (.v (.list true 2 (l.map tellRow)))] [] := by
  refine runs_tab (tab := [(0, .c (.list false 2 (l.map tellRow)))]) (rts := []) (n := 23) (k := 1) Try.func174 rfl rfl (by simp) rfl (fun t => ?_) rfl ?_
  · rcases t with _ | t <;> rfl
  have b1 : (0:Int) ≤ (l.length : Int) := by omega
  have b2 : (l.length : Int) * (((24:Nat):Int) + 1) ≤ ((bigRow : Nat) : Int) := by simp only [bigRow]; omega
  have b3 : (l.length : Int) ≤ (l.length : Int) := by omega
  (refine vw_go rfl ?_; simp only [go_sem, setCells, setIn])
  (refine vw_go rfl ?_; simp only [b1, b2, b3, Int.toNat_natCast, go_sem, setCells, setIn])
  refine vw_seq ?_
  (refine vw_go rfl ?_; simp only [go_sem, setCells, setIn])
  refine vw_block ?_
  refine vw_loop_tab (α := Nat) (fun x => l.length - x) (fun x => ⟨tabE [(0, .c (.list false 2 (l.map tellRow))), (3, .al 1 [] 0 2 0 l.length), (4, .c (.int .i64 x))], tabS [(1, some ⟨false, 2, fillW tellRow zTell l x, []⟩)], 2⟩)
    (fun x => x ≤ l.length) (x := 0) ?round ?h0 ?hn
  case h0 => exact Nat.zero_le _
  case hn =>
    (refine norm_to [(67585, 1)] rfl ?_ ?_ <;> simp only [go_sem])
    · simp [fillW_zero, zTell]
  intro i hi
  refine vw_seq ?_
  (refine vw_go rfl ?_; simp only [go_sem, setCells, setIn])
  refine vw_cond (t := decide ((i : Int) < l.length)) rfl (fun h => ?_) (fun h => ?_)
  · refine vw_skip (n_then ?_)
    rcases get_or l i with ⟨x, hx, hlt⟩ | ⟨_, hge⟩
    case inr => simp only [decide_eq_true_eq] at h; omega
    have c1 : (0:Int) ≤ (i:Int) := by omega
    have c2 : (i:Int) < (l.length : Int) := by omega
    have e1 : (fillW tellRow zTell l i).length = l.length := fillW_len hi
    have e2 : (fillW tellRow zTell l i).getD i [] = zTell := fillW_get hlt
    have e3 : setCells i 0 [.int .i64 x.code, .str x.text] (fillW tellRow zTell l i) = fillW tellRow zTell l (i + 1) := fillW_set hx rfl rfl
    have e4 : zTell.length = 2 := rfl
    refine vw_seq ?_
    refine vw_block ?_
    (refine vw_last rfl ?_; simp only [c1, c2, Int.toNat_natCast, getD_map_of hx, tellRow, go_sem])
    (refine ⟨_, _, call_rd [0] Try.func199 (runs_199 x) rfl rfl rfl rfl rfl rfl rfl rfl rfl rfl rfl rfl rfl, ?_⟩)
    simp only [runH, runX, c1, c2, e1, e2, e3, e4, hlt, Int.toNat_natCast, go_sem]
    refine (n_block (n_then ?_))
    have w2 : IntKind.wrap .i64 ((i:Int) + 1) = ((i + 1 : Nat) : Int) := by rw [wrap_i64 (by omega) (by omega)]; rfl
    (refine vw_last rfl ?_; simp only [w2, go_sem, setCells, setIn])
    refine (n_then ?_)
    refine ⟨i + 1, by omega, hlt, ?_⟩
    (refine norm_to [(1, 1)] rfl ?_ ?_ <;> simp only [go_sem])
  · refine vw_exit (x_then (x_then (x_block (n_then ?_))))
    (refine vw_go rfl ?_; simp only [go_sem, setCells, setIn])
    simp only [decide_eq_false_iff_not] at h
    have : i = l.length := by omega
    subst this
    rw [← fillW_end tellRow zTell l]
    exact vw_ret (e_ret (ret_of rfl rfl (by simp [RB]) rfl (take_whole (R := ⟨false, 2, fillW tellRow zTell l l.length, []⟩) rfl rfl rfl (fillW_len (Nat.le_refl _)))))

theorem runs_94 (x y : TellV) : Runs Try.prog 94 [.agg [.v (.int .i64 x.code), .v (.str x.text)], .agg [.v (.int .i64 y.code), .v (.str y.text)]] [.one (.v (.bool (decide (x = y))))] [] := by
  refine runs_tab (tab := [(0, .agg [.c (.int .i64 x.code), .c (.str x.text)]), (1, .agg [.c (.int .i64 y.code), .c (.str y.text)])]) (rts := []) (n := 15) (k := 4) Try.func94 rfl rfl (by simp) rfl (fun t => ?_) rfl ?_
  · rcases t with _ | _ | t <;> rfl
  (refine vw_go rfl ?_; simp only [go_sem, setCells, setIn])
  refine vw_seq ?_
  (refine vw_go rfl ?_; simp only [go_sem, setCells, setIn])
  refine vw_cond (t := !decide (x.code = y.code)) rfl (fun g0 => ?_) (fun g0 => ?_)
  · (refine vw_go rfl ?_; simp only [go_sem, setCells, setIn])
    rw [show decide (x = y) = false from decide_eq_false (fun e => by subst e; simp at g0)]
    exact vw_ret (r_then (e_ret (ret_of rfl rfl (by simp [RB]) rfl rfl)))
  refine vw_skip (n_then ?_)
  refine vw_seq ?_
  (refine vw_go rfl ?_; simp only [go_sem, setCells, setIn])
  refine vw_cond (t := !decide (x.text = y.text)) rfl (fun g1 => ?_) (fun g1 => ?_)
  · (refine vw_go rfl ?_; simp only [go_sem, setCells, setIn])
    rw [show decide (x = y) = false from decide_eq_false (fun e => by subst e; simp at g1)]
    exact vw_ret (r_then (e_ret (ret_of rfl rfl (by simp [RB]) rfl rfl)))
  refine vw_skip (n_then ?_)
  (refine vw_go rfl ?_; simp only [go_sem, setCells, setIn])
  rw [show decide (x = y) = true from decide_eq_true (by cases x; cases y; simp_all)]
  exact vw_ret (e_ret (ret_of rfl rfl (by simp [RB]) rfl rfl))

theorem runs_28 (a b : List TellV) (ha : a.length < 2 ^ 63) (hb : b.length < 2 ^ 63) :
    Runs Try.prog 28 [.one (.v (.list false 2 (a.map tellRow))), .one (.v (.list false 2 (b.map tellRow)))] [.one (.v (.bool (decide (a = b))))] [] := by
  refine runs_tab (tab := [(0, .c (.list false 2 (a.map tellRow))), (1, .c (.list false 2 (b.map tellRow)))]) (rts := []) (n := 27) (k := 2) Try.func28 rfl rfl (by simp) rfl (fun t => ?_) rfl ?_
  · rcases t with _ | _ | t <;> rfl
  (refine vw_go rfl ?_; simp only [go_sem, setCells, setIn])
  refine vw_seq ?_
  (refine vw_go rfl ?_; simp only [go_sem, setCells, setIn])
  refine vw_cond (t := !decide ((a.length : Int) = b.length)) rfl (fun h => ?_) (fun h => ?_)
  · (refine vw_go rfl ?_; simp only [go_sem, setCells, setIn])
    have h' : ¬ a = b := by
      intro e; subst e; simp at h
    rw [decide_eq_false h']
    exact vw_ret (r_then (e_ret (ret_of rfl rfl (by simp [RB]) rfl rfl)))
  · have hab : a.length = b.length := by
      have : (a.length : Int) = b.length := by simpa using h
      omega
    refine vw_skip (n_then ?_)
    refine vw_seq ?_
    (refine vw_go rfl ?_; simp only [go_sem, setCells, setIn])
    refine vw_block ?_
    refine vw_loop_tab (α := Nat) (fun x => a.length - x) (fun x => ⟨tabE [(0, .c (.list false 2 (a.map tellRow))), (1, .c (.list false 2 (b.map tellRow))), (5, .c (.int .i64 x))], tabS [], 2⟩)
      (fun x => x ≤ a.length ∧ a.take x = b.take x) (x := 0) ?round ?h0 ?hn
    case h0 => exact ⟨Nat.zero_le _, by simp⟩
    case hn => (refine norm_to [] rfl ?_ ?_ <;> simp only [go_sem])
    rintro i ⟨hi, htk⟩
    refine vw_seq ?_
    (refine vw_go rfl ?_; simp only [go_sem, setCells, setIn])
    refine vw_cond (t := decide ((i : Int) < a.length)) rfl (fun h => ?_) (fun h => ?_)
    · refine vw_skip (n_then ?_)
      rcases get_or a i with ⟨x, hx, hlt⟩ | ⟨_, hge⟩
      case inr => simp only [decide_eq_true_eq] at h; omega
      rcases get_or b i with ⟨y, hy, hlt'⟩ | ⟨_, hge⟩
      case inr => omega
      have c1 : (0:Int) ≤ (i:Int) := by omega
      have c2 : (i:Int) < (a.length : Int) := by omega
      have c3 : (i:Int) < (b.length : Int) := by omega
      refine vw_seq ?_
      refine vw_block ?_
      (refine vw_draw mixed rfl rfl ?_; simp only [c1, c2, c3, Int.toNat_natCast, getD_map_of hx, getD_map_of hy, tellRow, go_sem, setCells, setIn])
      (refine ⟨_, _, _, call_rd_at [0, 0] [] Try.func94 (runs_94 x y) (fun _ _ => rfl) rfl rfl rfl rfl rfl rfl rfl rfl rfl rfl rfl rfl, ?_⟩)
      simp only [runH, runX, go_sem, setCells, setIn]
      refine ⟨by unfold allOk; kernel_rfl, ?_⟩
      refine vw_cond (t := !decide (x = y)) rfl (fun h => ?_) (fun h => ?_)
      · (refine vw_go rfl ?_; simp only [go_sem, setCells, setIn])
        have h' : ¬ a = b := by
          intro e; subst e
          rw [hx] at hy
          simp only [Option.some.injEq] at hy
          subst hy
          simp at h
        rw [decide_eq_false h']
        exact vw_ret (r_block (r_then (r_then (r_block (r_then (e_ret (ret_of rfl rfl (by simp [RB]) rfl rfl)))))))
      · refine vw_skip (n_block (n_then ?_))
        have w2 : IntKind.wrap .i64 ((i:Int) + 1) = ((i + 1 : Nat) : Int) := by rw [wrap_i64 (by omega) (by omega)]; rfl
        (refine vw_last rfl ?_; simp only [w2, go_sem, setCells, setIn])
        refine (n_then ?_)
        have hxy : x = y := by simpa using h
        refine ⟨i + 1, by omega, ⟨hlt, ?_⟩, ?_⟩
        · rw [List.take_add_one, List.take_add_one, hx, hy, htk, hxy]
        · (refine norm_to [] rfl ?_ ?_ <;> simp only [go_sem])
    · refine vw_exit (x_then (x_then (x_block (n_then ?_))))
      (refine vw_go rfl ?_; simp only [go_sem, setCells, setIn])
      simp only [decide_eq_false_iff_not] at h
      have h' : a = b := by
        have e1 : i = a.length := by omega
        rw [e1, List.take_length, hab, List.take_length] at htk
        exact htk
      rw [decide_eq_true h']
      exact vw_ret (e_ret (ret_of rfl rfl (by simp [RB]) rfl rfl))

theorem typed_162 {k : Nat} {ts : List T} (h : typed Try.prog (k + 4) 162 ts) : ∃ l : List TellV, ts = [.list false 2 (l.map tellRow)] ∧ l.length < 2 ^ 63 ∧ ∀ x ∈ l, x.ok := by
  simp only [typed, Try.underlying162, Try.underlying227, typedF, Try.underlying3, Try.underlying9, Try.underlying4, cellsOf_227, List.map_cons, List.map_nil] at h
  obtain ⟨rows, rfl, hlen, hrows⟩ := h
  obtain ⟨l, rfl, hl⟩ := map_of (f := tellRow) (Q := TellV.ok) (rows := rows) (fun r hr => by
    obtain ⟨_, _, rfl, ⟨u_code, rfl, _⟩, _, _, rfl, ⟨u_text, rfl, u_text_ok⟩, rfl⟩ := hrows r hr
    exact ⟨⟨u_code, u_text⟩, rfl, u_text_ok⟩)
  exact ⟨l, rfl, by simpa using hlen, hl⟩
end Go.Proofs.Ytppbonbghmdhhaa
