/- Words of a line: the library's Cut at a blank, the specification's words, the kind of an Op. -/
import Derived.Test.YtkijdbljnefeaaaGreatDoorPFPut
set_option linter.unusedSimpArgs false
set_option linter.unusedVariables false
namespace Go.Proofs.YtkijdbljnefeaaaGreatDoor
open Go.VM Go
set_option maxRecDepth 100000
attribute [local congr] vw_congr runV_congr runH_congr runW_congr runX_congr stuckV_congr stuckX_congr
theorem idx_cases (s : ByteArray) (c : UInt8) (p : Nat) (hp : p ≤ s.size) : Lib.indexByte (s.data.toList.drop p) c = -1 ∨ ∃ o : Nat, Lib.indexByte (s.data.toList.drop p) c = o ∧ p + o < s.size := by
  have hge := Lib.indexByte_ge (s.data.toList.drop p) c
  by_cases h : Lib.indexByte (s.data.toList.drop p) c = -1
  · exact .inl h
  · obtain ⟨o, ho⟩ : ∃ o : Nat, Lib.indexByte (s.data.toList.drop p) c = o := ⟨(Lib.indexByte (s.data.toList.drop p) c).toNat, by omega⟩
    obtain ⟨h1, _⟩ := Lib.indexByte_some ho
    rw [rest_get] at h1
    have hlt := lt_of_getl h1
    rw [bs_len] at hlt
    exact .inr ⟨o, ho, hlt⟩
/-- What is ahead of the first blank, what is behind it, whether there is one. -/
def cutAt (s : ByteArray) : Int → ByteArray × ByteArray × Bool
  | .ofNat o => (s.extract 0 o, s.extract (o + 1) s.size, true)
  | .negSucc _ => (s, ⟨#[]⟩, false)
def cutS (s : ByteArray) : ByteArray × ByteArray × Bool := cutAt s (Lib.indexByte s.data.toList 32)
theorem cutS_none {s : ByteArray} (h : Lib.indexByte s.data.toList 32 = -1) : cutS s = (s, ⟨#[]⟩, false) := by rw [cutS, h]; rfl
theorem cutS_some {s : ByteArray} {o : Nat} (h : Lib.indexByte s.data.toList 32 = o) : cutS s = (s.extract 0 o, s.extract (o + 1) s.size, true) := by rw [cutS, h]; rfl
/-- Pieces between blanks, so many cuts at most. -/
def wpcs (s : ByteArray) : Nat → Nat → Nat → Nat → List ByteArray
  | _, 0, fr, i => [s.extract fr i]
  | k, n + 1, fr, i => if s.data.toList.getD i 0 = 32 ∧ 0 < k then s.extract fr i :: wpcs s (k - 1) n (i + 1) (i + 1) else wpcs s k n fr (i + 1)
theorem wpcs_hit {s : ByteArray} {k fr i : Nat} (hi : i < s.size) (h : s.data.toList.getD i 0 = 32) (hk : 0 < k) : wpcs s k (s.size - i) fr i = s.extract fr i :: wpcs s (k - 1) (s.size - (i + 1)) (i + 1) (i + 1) := by
  rw [show s.size - i = (s.size - (i + 1)) + 1 from by omega, wpcs, if_pos ⟨h, hk⟩]
theorem wpcs_miss {s : ByteArray} {k fr i : Nat} (hi : i < s.size) (h : ¬ (s.data.toList.getD i 0 = 32 ∧ 0 < k)) : wpcs s k (s.size - i) fr i = wpcs s k (s.size - (i + 1)) fr (i + 1) := by
  rw [show s.size - i = (s.size - (i + 1)) + 1 from by omega, wpcs, if_neg h]
theorem wpcs_end {s : ByteArray} {k fr : Nat} : wpcs s k (s.size - s.size) fr s.size = [s.extract fr s.size] := by rw [Nat.sub_self, wpcs]
theorem wpcs_skip {s : ByteArray} {k fr i : Nat} : ∀ (m : Nat), i + m ≤ s.size → (∀ j, j < m → ¬ s.data.toList.getD (i + j) 0 = 32) → wpcs s k (s.size - i) fr i = wpcs s k (s.size - (i + m)) fr (i + m)
  | 0, _, _ => rfl
  | m + 1, h, hj => by
    rw [wpcs_skip m (by omega) (fun j h' => hj j (by omega)), wpcs_miss (by omega) (fun h' => hj m (by omega) h'.1)]; rfl
theorem wpcs_zero {s : ByteArray} : ∀ (n fr i : Nat), wpcs s 0 n fr i = [s.extract fr (i + n)]
  | 0, fr, i => by rw [wpcs]; rfl
  | n + 1, fr, i => by rw [wpcs, if_neg (by simp), wpcs_zero n fr (i + 1), show i + 1 + n = i + (n + 1) from by omega]
theorem wpcs_none {s : ByteArray} {k p : Nat} (hp : p ≤ s.size) (h : Lib.indexByte (s.data.toList.drop p) 32 = -1) : wpcs s k (s.size - p) p p = [s.extract p s.size] := by
  rw [wpcs_skip (s.size - p) (by omega) (fun j hj hb => ?_), show p + (s.size - p) = s.size from by omega, wpcs_end]
  have hl : p + j < s.data.toList.length := by rw [bs_len]; omega
  refine Lib.indexByte_none h j ?_
  rw [rest_get, List.getElem?_eq_getElem hl]
  rw [List.getD_eq_getElem?_getD, List.getElem?_eq_getElem hl] at hb
  simpa using hb
theorem wpcs_cut {s : ByteArray} {k p o : Nat} (hlt : p + o < s.size) (ho : Lib.indexByte (s.data.toList.drop p) 32 = o) :
    wpcs s (k + 1) (s.size - p) p p = s.extract p (p + o) :: wpcs s k (s.size - (p + o + 1)) (p + o + 1) (p + o + 1) := by
  obtain ⟨h1, h2⟩ := Lib.indexByte_some ho
  rw [rest_get] at h1
  rw [wpcs_skip o (by omega) (fun j hj hb => ?_), wpcs_hit hlt (getD_of h1) (by omega)]
  · rfl
  · have hl : p + j < s.data.toList.length := by rw [bs_len]; omega
    refine h2 j hj ?_
    rw [rest_get, List.getElem?_eq_getElem hl]
    rw [List.getD_eq_getElem?_getD, List.getElem?_eq_getElem hl] at hb
    simpa using hb
theorem whole_ex (s : ByteArray) : s.extract 0 s.size = s := Lib.whole_piece s
/-- Three words at most: two cuts. -/
theorem words3 (s : ByteArray) : wpcs s 2 s.size 0 0 = if (cutS s).2.2 = true then (if (cutS (cutS s).2.1).2.2 = true then [(cutS s).1, (cutS (cutS s).2.1).1, (cutS (cutS s).2.1).2.1] else [(cutS s).1, (cutS (cutS s).2.1).1]) else [(cutS s).1] := by
  have e0 : wpcs s 2 s.size 0 0 = wpcs s 2 (s.size - 0) 0 0 := by rw [Nat.sub_zero]
  rw [e0]
  rcases idx_cases s 32 0 (Nat.zero_le _) with h | ⟨o, h, hlt⟩
  · rw [wpcs_none (Nat.zero_le _) h]
    rw [List.drop_zero] at h
    rw [cutS_none h, whole_ex]; rfl
  · rw [wpcs_cut hlt h]
    rw [List.drop_zero] at h
    rw [cutS_some h]
    simp only [if_true,Nat.zero_add]
    rw [Nat.zero_add] at hlt
    have rb := rest_bytes s (o + 1)
    have rz := rest_size s (o + 1)
    rcases idx_cases s 32 (o + 1) (by omega) with h2 | ⟨q, h2, hlt2⟩
    · rw [wpcs_none (by omega) h2, cutS_none (by rw [rb]; exact h2)]; rfl
    · rw [wpcs_cut (k := 0) hlt2 h2, cutS_some (by rw [rb]; exact h2), wpcs_zero]
      simp only [if_true]
      rw [ByteArray.extract_extract, ByteArray.extract_extract, Nat.add_zero, rz, Nat.min_eq_left (by omega), show o + 1 + (s.size - (o + 1)) = s.size from by omega, Nat.min_self, show o + 1 + q + 1 + (s.size - (o + 1 + q + 1)) = s.size from by omega, show o + 1 + (q + 1) = o + 1 + q + 1 from by omega]
theorem cutS_size (s : ByteArray) : (cutS s).1.size ≤ s.size ∧ (cutS s).2.1.size ≤ s.size := by
  rcases idx_cases s 32 0 (Nat.zero_le _) with h | ⟨o, h, hlt⟩
  · rw [List.drop_zero] at h
    rw [cutS_none h]; exact ⟨Nat.le_refl _, Nat.zero_le _⟩
  · rw [List.drop_zero] at h
    rw [cutS_some h]
    simp only [ByteArray.size_extract]
    omega
theorem runs_53 (s : ByteArray) (hs : s.size ≤ 2 ^ 20) : Runs Tryz.prog 53 [.one (.v (.str s)), .one (.v (.str ⟨#[32]⟩))] [.one (.v (.str (cutS s).1)), .one (.v (.str (cutS s).2.1)), .one (.v (.bool (cutS s).2.2))] [] := by
  refine runs_tab (tab := [(0, .c (.str s)), (1, .c (.str ⟨#[32]⟩))]) (rts := []) (n := 23) (k := 2) Tryz.func53 rfl rfl (by simp) rfl (fun t => ?_) rfl ?_
  · rcases t with _ | _ | t <;> rfl
  have z : ((ByteArray.size ⟨#[32]⟩ : Nat) : Int) = 1 := rfl
  have z' : ((Array.size #[(32 : UInt8)] : Nat) : Int) = 1 := rfl
  have rI := runs_79 s 32
  refine vw_go rfl ?_; simp only [go_sem,setCells,setIn]
  refine vw_seq ?_
  refine vw_go rfl ?_; simp only [go_sem,setCells,setIn]
  refine ⟨_, _, call_rd [0, 0] Tryz.func79 (rI) rfl rfl rfl rfl rfl rfl rfl rfl rfl rfl rfl rfl rfl, ?_⟩
  rcases idx_cases s 32 0 (Nat.zero_le _) with h | ⟨o, h, hlt⟩
  · rw [List.drop_zero] at h
    rw [h, cutS_none h]
    simp only [runH,runX,go_sem,setCells,setIn]
    refine vw_go rfl ?_; simp only [go_sem,setCells,setIn]
    refine vw_cond (t := false) rfl (fun h => ?_) (fun h => ?_)
    · cases h
    refine vw_skip (n_then ?_)
    refine vw_go rfl ?_; simp only [go_sem,setCells,setIn]
    exact vw_ret (e_ret (ret_of rfl rfl (by simp [RB]) rfl rfl))
  · rw [List.drop_zero] at h
    rw [h, cutS_some h]
    have c1 : (0:Int) ≤ (o : Int) := by omega
    have w1 : IntKind.wrap .i64 ((o : Int) + 1) = ((o + 1 : Nat) : Int) := by rw [wrap_i64 (by omega) (by omega)]; rfl
    have d1 : 0 ≤ o ∧ o ≤ s.size := by omega
    have d2 : o + 1 ≤ s.size ∧ s.size ≤ s.size := by omega
    have d3 : (0:Int) ≤ ((o + 1 : Nat) : Int) := by omega
    simp only [runH,runX,go_sem,setCells,setIn]
    refine vw_go rfl ?_; simp only [c1,go_sem,setCells,setIn]
    refine vw_cond (t := true) rfl (fun h => ?_) (fun h => ?_)
    case refine_2 => cases h
    refine vw_draw mixed rfl rfl ?_; simp only [z,z',w1,c1,d1,d2,d3,Int.toNat_natCast,go_sem,setCells,setIn]
    refine ⟨by unfold allOk; kernel_rfl, ?_⟩
    exact vw_ret (r_then (e_ret (ret_of rfl rfl (by simp [RB]) rfl rfl)))
theorem runs_30 (s : ByteArray) (hs : s.size ≤ 2 ^ 20) : Runs Tryz.prog 30 [.one (.v (.str s)), .one (.v (.str ⟨#[32]⟩))] [.one (.v (.str (cutS s).1)), .one (.v (.str (cutS s).2.1)), .one (.v (.bool (cutS s).2.2))] [] := by
  refine runs_tab (tab := [(0, .c (.str s)), (1, .c (.str ⟨#[32]⟩))]) (rts := []) (n := 13) (k := 2) Tryz.func30 rfl rfl (by simp) rfl (fun t => ?_) rfl ?_
  · rcases t with _ | _ | t <;> rfl
  have rC := runs_53 s hs
  generalize cutS s = W at rC
  obtain ⟨a, b, c⟩ := W
  refine vw_go rfl ?_; simp only [go_sem,setCells,setIn]
  refine vw_go rfl ?_; simp only [go_sem,setCells,setIn]
  refine ⟨_, _, call_rd [0, 0] Tryz.func53 (rC) rfl rfl rfl rfl rfl rfl rfl rfl rfl rfl rfl rfl rfl, ?_⟩
  simp only [runH,runX,go_sem,setCells,setIn]
  exact vw_ret (e_ret (ret_of rfl rfl (by simp [RB]) rfl rfl))
theorem runs_33 (s : ByteArray) (k : Nat) (hk : k ≤ 8) (hs : s.size ≤ 2 ^ 20) : Runs Tryz.prog 33 [.one (.v (.str s)), .one (.v (.int .i64 ((k + 1 : Nat) : Int)))] [.one (.v (.list true 1 ((wpcs s k s.size 0 0).map sRow)))] [] := by
  refine runs_tab (tab := [(0, .c (.str s)), (1, .c (.int .i64 ((k + 1 : Nat) : Int)))]) (rts := []) (n := 42) (k := 2) Tryz.func33 rfl rfl (by simp) rfl (fun t => ?_) rfl ?_
  · rcases t with _ | _ | t <;> rfl
  have wk : IntKind.wrap .i64 (((k + 1 : Nat) : Int) - 1) = (k : Int) := by rw [wrap_i64 (by omega) (by omega)]; omega
  obtain ⟨W, hW⟩ : ∃ W, W = wpcs s k s.size 0 0 := ⟨_, rfl⟩
  rw [← hW]
  refine vw_go rfl ?_; simp only [go_sem,setCells,setIn]
  refine vw_go rfl ?_; simp only [go_sem,setCells,setIn]
  refine vw_go rfl ?_; simp only [go_sem,setCells,setIn]
  refine vw_seq ?_
  refine vw_go rfl ?_; simp only [go_sem,setCells,setIn]
  refine vw_block ?_
  refine vw_loop_tab (α := List ByteArray × Nat × Nat) (fun x => s.size + 1 - x.2.2) (fun x => ⟨tabE [(0, .c (.str s)), (1, .c (.int .i64 ((k + 1 : Nat) : Int))), (5, .al 2 [] 0 1 0 x.1.length), (6, .c (.int .i64 x.2.1)), (7, .c (.int .i64 x.2.2))], tabS [(2, some ⟨false, 1, x.1.map sRow, []⟩)], 3⟩)
    (fun x => x.2.1 ≤ x.2.2 ∧ x.2.2 ≤ s.size + 1 ∧ x.1.length ≤ k + 1 ∧ (x.2.2 ≤ s.size → x.1.length ≤ k ∧ x.1 ++ wpcs s (k - x.1.length) (s.size - x.2.2) x.2.1 x.2.2 = W) ∧ (x.2.2 = s.size + 1 → x.1 = W)) (x := ([], 0, 0)) ?round ?h0 ?hn
  case h0 => exact ⟨Nat.le_refl _, Nat.zero_le _, Nat.zero_le _, fun _ => ⟨Nat.zero_le _, hW.symm⟩, fun h => by simp at h⟩
  case hn =>
    refine norm_to [(65538, 2)] rfl ?_ ?_ <;> simp only [go_sem]
    · simp
  rintro ⟨out, fr, i⟩ ⟨h1, h2, h3, h5, h6⟩
  simp only at h1 h2 h3 h5 h6
  refine vw_seq ?_
  by_cases hc : (i : Int) ≤ (s.size : Int)
  case neg =>
    refine vw_go rfl ?_; simp only [hc,go_sem,setCells,setIn]
    refine vw_cond (t := false) rfl (fun h => ?_) (fun h => ?_)
    · cases h
    refine vw_exit (x_then (x_then (x_block (n_then ?_))))
    refine vw_go rfl ?_; simp only [go_sem,setCells,setIn]
    have e : out = W := h6 (by omega)
    rw [← e]
    exact vw_ret (e_ret (ret_by rfl rfl (by simp [RB]) rfl (by simp only [takeCs,takeC,go_sem,setCells,setIn])))
  obtain ⟨h4, e⟩ := h5 (by omega)
  refine vw_go rfl ?_; simp only [hc,go_sem,setCells,setIn]
  refine vw_cond (t := true) rfl (fun h => ?_) (fun h => ?_)
  case refine_2 => cases h
  refine vw_skip (n_then ?_)
  have c0 : (0:Int) ≤ (fr : Int) := by omega
  have c1 : (0:Int) ≤ (i : Int) := by omega
  have c2 : fr ≤ i ∧ i ≤ s.size := by omega
  have B1 : ¬ (out.length + 1 + 1) * (16 + 1) > bigRow := by simp only [bigRow]; omega
  have qt : (out.map sRow ++ [[T.str (s.extract fr i)]]).take (out.length + 1) = out.map sRow ++ [[T.str (s.extract fr i)]] := by
    rw [List.take_of_length_le (by simp)]
  have w2 : IntKind.wrap .i64 ((i:Int) + 1) = ((i + 1 : Nat) : Int) := by rw [wrap_i64 (by omega) (by omega)]; rfl
  refine vw_seq ?_
  refine vw_block ?_
  by_cases hE : i = s.size
  · subst hE
    refine vw_go rfl ?_; simp only [wk,go_sem,setCells,setIn]
    refine vw_cond (t := true) rfl (fun h => ?_) (fun h => ?_)
    case refine_2 => cases h
    refine vw_go rfl ?_; simp only [c0,c1,c2,h1,Nat.le_refl,Int.toNat_natCast,range1,List.replicate_succ,List.replicate_zero,List.flatten_cons,List.flatten_nil,List.range_zero,gt_iff_lt,B1,List.length_append,qt,go_sem,setCells,setIn]
    refine vw_last rfl ?_; simp only [w2,go_sem,setCells,setIn]
    refine (n_block (n_then ?_))
    refine vw_last rfl ?_; simp only [w2,go_sem,setCells,setIn]
    refine (n_then ?_)
    rw [wpcs_end] at e
    refine ⟨(out ++ [s.extract fr s.size], s.size + 1, s.size + 1), by simp only; omega, ⟨by simp only; omega, by simp only; omega, by simp; omega, fun h => by simp only at h; omega, fun _ => e⟩, ?_⟩
    refine norm_to [(137219, 2)] rfl ?_ ?_ <;> simp only [go_sem]
    · simp
    · simp [sRow]
  rcases get_or s.data.toList i with ⟨b, hx, hlt⟩ | ⟨_, hge⟩
  case inr => rw [bs_len] at hge; omega
  rw [bs_len] at hlt
  have g := getD_of (d := 0) hx
  have c3 : (i:Int) < (s.size : Int) := by omega
  have c4 : ((i:Int) = (s.size : Int)) = False := eq_false (by omega)
  by_cases hb : b = 32
  · have hb' : ((b.toNat : Int) = 32) = True := eq_true ((b_iff b 32 (by decide)).2 hb)
    by_cases hk2 : out.length < k
    · have hk3 : ((out.length : Int) < (k : Int)) = True := eq_true (by omega)
      rw [wpcs_hit hlt (g.trans hb) (by omega), ← List.singleton_append, ← List.append_assoc] at e
      refine vw_go rfl ?_; simp only [c1,c3,c4,Int.toNat_natCast,g,hb',wk,hk3,go_sem,setCells,setIn]
      refine vw_cond (t := true) rfl (fun h => ?_) (fun h => ?_)
      case refine_2 => cases h
      refine vw_go rfl ?_; simp only [c0,c1,c2,h1,Nat.le_refl,Int.toNat_natCast,range1,List.replicate_succ,List.replicate_zero,List.flatten_cons,List.flatten_nil,List.range_zero,gt_iff_lt,B1,List.length_append,qt,go_sem,setCells,setIn]
      refine vw_last rfl ?_; simp only [w2,go_sem,setCells,setIn]
      refine (n_block (n_then ?_))
      refine vw_last rfl ?_; simp only [w2,go_sem,setCells,setIn]
      refine (n_then ?_)
      refine ⟨(out ++ [s.extract fr i], i + 1, i + 1), by simp only; omega, ⟨by simp only; omega, by simp only; omega, by simp; omega, fun _ => ⟨by simp; omega, by simpa [Nat.sub_sub] using e⟩, fun h => ?_⟩, ?_⟩
      · simp only at h; omega
      refine norm_to [(137219, 2)] rfl ?_ ?_ <;> simp only [go_sem]
      · simp
      · simp [sRow]
    · have hk3 : ((out.length : Int) < (k : Int)) = False := eq_false (by omega)
      rw [wpcs_miss hlt (fun h => by omega)] at e
      refine vw_go rfl ?_; simp only [c1,c3,c4,Int.toNat_natCast,g,hb',wk,hk3,go_sem,setCells,setIn]
      refine vw_cond (t := false) rfl (fun h => ?_) (fun h => ?_)
      · cases h
      refine vw_skip (n_block (n_then ?_))
      refine vw_last rfl ?_; simp only [w2,go_sem,setCells,setIn]
      refine (n_then ?_)
      refine ⟨(out, fr, i + 1), by simp only; omega, ⟨by simp only; omega, by simp only; omega, by simp only; omega, fun _ => ⟨h4, e⟩, fun h => by simp only at h; omega⟩, ?_⟩
      refine norm_to [(2, 2)] rfl ?_ ?_ <;> simp only [go_sem]
  · have hb' : ((b.toNat : Int) = 32) = False := eq_false (fun h => hb ((b_iff b 32 (by decide)).1 h))
    rw [wpcs_miss hlt (fun h => hb (g.symm.trans h.1))] at e
    refine vw_go rfl ?_; simp only [c1,c3,c4,Int.toNat_natCast,g,hb',wk,go_sem,setCells,setIn]
    refine vw_cond (t := false) rfl (fun h => ?_) (fun h => ?_)
    · cases h
    refine vw_skip (n_block (n_then ?_))
    refine vw_last rfl ?_; simp only [w2,go_sem,setCells,setIn]
    refine (n_then ?_)
    refine ⟨(out, fr, i + 1), by simp only; omega, ⟨by simp only; omega, by simp only; omega, by simp only; omega, fun _ => ⟨h4, e⟩, fun h => by simp only at h; omega⟩, ?_⟩
    refine norm_to [(2, 2)] rfl ?_ ?_ <;> simp only [go_sem]
/-- The words of an Op's kind: "", file, dir, put, get, drop, move, list. -/
def opWords : List ByteArray := [⟨#[]⟩, ⟨#[102, 105, 108, 101]⟩, ⟨#[100, 105, 114]⟩, ⟨#[112, 117, 116]⟩, ⟨#[103, 101, 116]⟩, ⟨#[100, 114, 111, 112]⟩, ⟨#[109, 111, 118, 101]⟩, ⟨#[108, 105, 115, 116]⟩]
def kindOf (w : ByteArray) : Int := if 0 < idxOf (fun x => decide (w = x)) opWords 0 then idxOf (fun x => decide (w = x)) opWords 0 else 0
/-- The kind as the specification finds it. -/
def kindAt (w : ByteArray) : Nat → Int
  | 0 => 0
  | k + 1 => if 1 ≤ k ∧ opWords.getD k ⟨#[]⟩ = w then (k : Int) else kindAt w k
theorem kindAt_of (w : ByteArray) : kindAt w 8 = kindOf w := by
  by_cases h0 : w = ⟨#[]⟩
  · subst h0; decide +kernel
  by_cases h1 : w = ⟨#[102, 105, 108, 101]⟩
  · subst h1; decide +kernel
  by_cases h2 : w = ⟨#[100, 105, 114]⟩
  · subst h2; decide +kernel
  by_cases h3 : w = ⟨#[112, 117, 116]⟩
  · subst h3; decide +kernel
  by_cases h4 : w = ⟨#[103, 101, 116]⟩
  · subst h4; decide +kernel
  by_cases h5 : w = ⟨#[100, 114, 111, 112]⟩
  · subst h5; decide +kernel
  by_cases h6 : w = ⟨#[109, 111, 118, 101]⟩
  · subst h6; decide +kernel
  by_cases h7 : w = ⟨#[108, 105, 115, 116]⟩
  · subst h7; decide +kernel
  have e : ∀ x ∈ opWords, ¬ x = w := by
    intro x hx e
    subst e
    simp only [opWords,List.mem_cons,List.not_mem_nil,or_false] at hx
    simp_all
  have z : idxOf (fun x => decide (w = x)) opWords 0 = -1 := by
    simp [idxOf,opWords,h0,h1,h2,h3,h4,h5,h6,h7]
  have f : ∀ k, k < 8 → ¬ (1 ≤ k ∧ opWords.getD k ⟨#[]⟩ = w) := by
    intro k hk h
    have : opWords[k]? = some (opWords.getD k ⟨#[]⟩) := by
      rw [List.getD_eq_getElem?_getD, List.getElem?_eq_getElem (show k < opWords.length from hk)]; rfl
    exact e _ (List.mem_of_getElem? this) h.2
  rw [kindOf, z]
  simp only [kindAt,if_neg (f 7 (by omega)),if_neg (f 6 (by omega)),if_neg (f 5 (by omega)),if_neg (f 4 (by omega)),if_neg (f 3 (by omega)),if_neg (f 2 (by omega)),if_neg (f 1 (by omega)),if_neg (f 0 (by omega))]
  rfl
theorem runs_31 (w : ByteArray) : Runs Tryz.prog 31 [.one (.v (.str w))] [.one (.v (.int .i64 (kindOf w)))] [] := by
  refine runs_tab (tab := [(0, .c (.str w))]) (rts := []) (n := 7) (k := 1) Tryz.func31 rfl rfl (by simp) rfl (fun t => ?_) rfl ?_
  · rcases t with _ | t <;> rfl
  have rI := runs_54 opWords (by decide) w
  rw [show opWords.map sRow = [[.str ⟨#[]⟩], [.str ⟨#[102, 105, 108, 101]⟩], [.str ⟨#[100, 105, 114]⟩], [.str ⟨#[112, 117, 116]⟩], [.str ⟨#[103, 101, 116]⟩], [.str ⟨#[100, 114, 111, 112]⟩], [.str ⟨#[109, 111, 118, 101]⟩], [.str ⟨#[108, 105, 115, 116]⟩]] from rfl] at rI
  refine vw_go rfl ?_; simp only [go_sem,setCells,setIn]
  refine vw_go rfl ?_; simp only [range1,List.replicate_succ,List.replicate_zero,List.flatten_cons,List.flatten_nil,List.range_zero,gt_iff_lt,go_sem,setCells,setIn]
  refine ⟨_, _, call_rx [0, 0] Tryz.func54 (rI) rfl rfl rfl rfl rfl rfl rfl (by simp [lendAll,lendC,seek,fresh,nav,rcells,RT.cells,VV.cells,tabE_cons,tabS_cons,ev,take_map_len,sRow_r1,sRow_clean]) rfl (by simp [rcells,RT.cells,CT.clean,T.clean,sRow_r1,sRow_clean]) rfl rfl, ?_⟩
  simp only [runH,runX,go_sem,setCells,setIn]
  exact vw_ret (e_ret (ret_of rfl rfl (by simp [RB]) rfl rfl))
def pathRd (s : ByteArray) : ByteArray × Bool := if s = ⟨#[46]⟩ then (⟨#[]⟩, true) else (s, !decide (s = ⟨#[]⟩) && pathOk s)
theorem runs_34 (s : ByteArray) (hs : s.size ≤ 2 ^ 20) : Runs Tryz.prog 34 [.one (.v (.str s))] [.one (.v (.str (pathRd s).1)), .one (.v (.bool (pathRd s).2))] [] := by
  refine runs_tab (tab := [(0, .c (.str s))]) (rts := []) (n := 13) (k := 1) Tryz.func34 rfl rfl (by simp) rfl (fun t => ?_) rfl ?_
  · rcases t with _ | t <;> rfl
  refine vw_go rfl ?_; simp only [go_sem,setCells,setIn]
  refine vw_seq ?_
  refine vw_go rfl ?_; simp only [go_sem,setCells,setIn]
  refine vw_cond (t := decide (s = ⟨#[46]⟩)) rfl (fun h => ?_) (fun h => ?_)
  · (refine vw_go rfl ?_; simp only [go_sem,setCells,setIn])
    simp only [decide_eq_true_eq] at h
    rw [pathRd, if_pos h]
    exact vw_ret (r_then (e_ret (ret_of rfl rfl (by simp [RB]) rfl rfl)))
  refine vw_skip (n_then ?_)
  simp only [decide_eq_false_iff_not] at h
  rw [pathRd, if_neg h]
  cases hz : decide (s = ⟨#[]⟩)
  · (refine vw_go rfl ?_; simp only [hz,go_sem,setCells,setIn])
    refine ⟨_, _, call_rd [0] Tryz.func55 (runs_55 s hs) rfl rfl rfl rfl rfl rfl rfl rfl rfl rfl rfl rfl rfl, ?_⟩
    simp only [runH,runX,go_sem,setCells,setIn]
    exact vw_ret (e_ret (ret_of rfl rfl (by simp [RB]) rfl rfl))
  · (refine vw_go rfl ?_; simp only [hz,go_sem,setCells,setIn])
    exact vw_ret (e_ret (ret_of rfl rfl (by simp [RB]) rfl rfl))
theorem runs_32 (s : ByteArray) (hs : s.size ≤ 2 ^ 20) : Runs Tryz.prog 32 [.one (.v (.str s))] [.one (.v (.str (pathRd s).1)), .one (.v (.bool (pathRd s).2))] [] := by
  refine runs_tab (tab := [(0, .c (.str s))]) (rts := []) (n := 13) (k := 1) Tryz.func32 rfl rfl (by simp) rfl (fun t => ?_) rfl ?_
  · rcases t with _ | t <;> rfl
  refine vw_go rfl ?_; simp only [go_sem,setCells,setIn]
  refine vw_seq ?_
  refine vw_go rfl ?_; simp only [go_sem,setCells,setIn]
  refine vw_cond (t := decide (s = ⟨#[46]⟩)) rfl (fun h => ?_) (fun h => ?_)
  · (refine vw_go rfl ?_; simp only [go_sem,setCells,setIn])
    simp only [decide_eq_true_eq] at h
    rw [pathRd, if_pos h]
    exact vw_ret (r_then (e_ret (ret_of rfl rfl (by simp [RB]) rfl rfl)))
  refine vw_skip (n_then ?_)
  simp only [decide_eq_false_iff_not] at h
  rw [pathRd, if_neg h]
  cases hz : decide (s = ⟨#[]⟩)
  · (refine vw_go rfl ?_; simp only [hz,go_sem,setCells,setIn])
    refine ⟨_, _, call_rd [0] Tryz.func17 (runs_17 s hs) rfl rfl rfl rfl rfl rfl rfl rfl rfl rfl rfl rfl rfl, ?_⟩
    simp only [runH,runX,go_sem,setCells,setIn]
    exact vw_ret (e_ret (ret_of rfl rfl (by simp [RB]) rfl rfl))
  · (refine vw_go rfl ?_; simp only [hz,go_sem,setCells,setIn])
    exact vw_ret (e_ret (ret_of rfl rfl (by simp [RB]) rfl rfl))
end Go.Proofs.YtkijdbljnefeaaaGreatDoor
