/- Names of a path: the library's Split at one byte. Paths: PathOk of both, and its law. The law of PathOk. Steps of both, and its law. Walks in a volume, of both. Split of both, and its law. Put values: trees, and the walks of their size, their copy, their comparing (one; a slice). Printed by a program (tfun.py). -/
import Derived.Test.YtkijdbljnefeaaaGreatDoorPFNames
import Derived.Lib.Explode
import Derived.Test.YtkijdbljnefeaaaGreatDoorPFBigG
import Derived.Test.YtkijdbljnefeaaaGreatDoorPFKid
import Derived.Test.YtkijdbljnefeaaaGreatDoorPFIn
set_option linter.unusedSimpArgs false
set_option linter.unusedVariables false
namespace Go.Proofs.YtkijdbljnefeaaaGreatDoor
open Go.VM Go
set_option maxRecDepth 100000
attribute [local congr] vw_congr runV_congr runH_congr runW_congr runX_congr stuckV_congr stuckX_congr
theorem toB (c : UInt8) : (c.toNat).toUInt8 = c := by simp
theorem runs_83 (s : ByteArray) (c : UInt8) : Runs Tryz.prog 83 [.one (.v (.str s)), .one (.v (.str ⟨#[c]⟩))] [.one (.v (.int .i64 (s.data.toList.count c)))] [] := by
  refine runs_tab (tab := [(0, .c (.str s)), (1, .c (.str ⟨#[c]⟩))]) (rts := []) (n := 34) (k := 2) Tryz.func83 rfl rfl (by simp) rfl (fun t => ?_) rfl ?_
  · rcases t with _ | _ | t <;> rfl
  have z : ((ByteArray.size ⟨#[c]⟩ : Nat) : Int) = 1 := rfl
  have z1 : (⟨#[c]⟩ : ByteArray).data.toList.getD 0 0 = c := rfl
  refine vw_go rfl ?_; simp only [go_sem,setCells,setIn]
  refine vw_seq ?_
  refine vw_go rfl ?_; simp only [z,go_sem,setCells,setIn]
  refine vw_cond (t := false) rfl (fun h => ?_) (fun h => ?_)
  · cases h
  refine vw_skip (n_then ?_)
  refine vw_seq ?_
  refine vw_go rfl ?_; simp only [z,go_sem,setCells,setIn]
  refine vw_cond (t := true) rfl (fun h => ?_) (fun h => ?_)
  case refine_2 => cases h
  refine vw_go rfl ?_; simp only [z,z1,go_sem,setCells,setIn]
  refine ⟨_, _, call_prim2 9 5 Tryz.func115 rfl rfl (by kernel_rfl) (e := Extern.BytealgCount.count) (by kernel_rfl) (fun w => Lib.run_countString s _ w) rfl rfl rfl rfl rfl rfl, ?_⟩
  simp only [runH,runX,Lib.countByte,Int.toNat_natCast,toB,go_sem,setCells,setIn]
  exact vw_ret (r_then (e_ret (ret_of rfl rfl (by simp [RB]) rfl rfl)))
theorem runs_109 (s : ByteArray) (c : UInt8) : Runs Tryz.prog 109 [.one (.v (.str s)), .one (.v (.int .u8 c.toNat))] [.one (.v (.int .i64 (Lib.indexByte s.data.toList c)))] [] := by
  refine runs_tab (tab := [(0, .c (.str s)), (1, .c (.int .u8 c.toNat))]) (rts := []) (n := 8) (k := 2) Tryz.func109 rfl rfl (by simp) rfl (fun t => ?_) rfl ?_
  · rcases t with _ | _ | t <;> rfl
  refine vw_go rfl ?_; simp only [go_sem,setCells,setIn]
  refine vw_go rfl ?_; simp only [go_sem,setCells,setIn]
  refine ⟨_, _, call_prim2 9 5 Tryz.func143 rfl rfl (by kernel_rfl) (e := Extern.BytealgIndexByte.indexByte) (by kernel_rfl) (fun w => Lib.run_indexByteString s _ w) rfl rfl rfl rfl rfl rfl, ?_⟩
  simp only [runH,runX,Int.toNat_natCast,toB,go_sem,setCells,setIn]
  exact vw_ret (e_ret (ret_of rfl rfl (by simp [RB]) rfl rfl))
theorem runs_79 (s : ByteArray) (c : UInt8) : Runs Tryz.prog 79 [.one (.v (.str s)), .one (.v (.str ⟨#[c]⟩))] [.one (.v (.int .i64 (Lib.indexByte s.data.toList c)))] [] := by
  refine runs_tab (tab := [(0, .c (.str s)), (1, .c (.str ⟨#[c]⟩))]) (rts := []) (n := 143) (k := 2) Tryz.func79 rfl rfl (by simp) rfl (fun t => ?_) rfl ?_
  · rcases t with _ | _ | t <;> rfl
  have z : ((ByteArray.size ⟨#[c]⟩ : Nat) : Int) = 1 := rfl
  have z1 : (⟨#[c]⟩ : ByteArray).data.toList.getD 0 0 = c := rfl
  refine vw_go rfl ?_; simp only [go_sem,setCells,setIn]
  refine vw_go rfl ?_; simp only [z,go_sem,setCells,setIn]
  refine vw_seq ?_
  refine vw_block ?_
  by_cases e : (⟨#[c]⟩ : ByteArray) = s
  · have e' : decide ((⟨#[c]⟩ : ByteArray) = s) = true := by simp [e]
    refine vw_go rfl ?_; simp only [e',go_sem,setCells,setIn]
    refine vw_cond (t := true) rfl (fun h => ?_) (fun h => ?_)
    case refine_2 => cases h
    refine vw_go rfl ?_; simp only [go_sem,setCells,setIn]
    rw [show Lib.indexByte s.data.toList c = 0 from by rw [← e]; simp [Lib.indexByte]]
    exact vw_ret (r_block (r_then (e_ret (ret_of rfl rfl (by simp [RB]) rfl rfl))))
  have e' : decide ((⟨#[c]⟩ : ByteArray) = s) = false := by simp [e]
  refine vw_go rfl ?_; simp only [e',go_sem,setCells,setIn]
  refine vw_cond (t := false) rfl (fun h => ?_) (fun h => ?_)
  · cases h
  refine vw_go rfl ?_; simp only [go_sem,setCells,setIn]
  refine vw_cond (t := true) rfl (fun h => ?_) (fun h => ?_)
  case refine_2 => cases h
  refine vw_go rfl ?_; simp only [z,z1,go_sem,setCells,setIn]
  refine ⟨_, _, call_rd [0, 0] Tryz.func109 (runs_109 s c) rfl rfl rfl rfl rfl rfl rfl rfl rfl rfl rfl rfl rfl, ?_⟩
  simp only [runH,runX,go_sem,setCells,setIn]
  exact vw_ret (r_block (r_then (e_ret (ret_of rfl rfl (by simp [RB]) rfl rfl))))
theorem runs_84 (s : ByteArray) (c : UInt8) : Runs Tryz.prog 84 [.one (.v (.str s)), .one (.v (.str ⟨#[c]⟩))] [.one (.v (.int .i64 (Lib.indexByte s.data.toList c)))] [] := by
  refine runs_tab (tab := [(0, .c (.str s)), (1, .c (.str ⟨#[c]⟩))]) (rts := []) (n := 8) (k := 2) Tryz.func84 rfl rfl (by simp) rfl (fun t => ?_) rfl ?_
  · rcases t with _ | _ | t <;> rfl
  refine vw_go rfl ?_; simp only [go_sem,setCells,setIn]
  refine vw_go rfl ?_; simp only [go_sem,setCells,setIn]
  refine ⟨_, _, call_rd [0, 0] Tryz.func79 (runs_79 s c) rfl rfl rfl rfl rfl rfl rfl rfl rfl rfl rfl rfl rfl, ?_⟩
  simp only [runH,runX,go_sem,setCells,setIn]
  exact vw_ret (e_ret (ret_of rfl rfl (by simp [RB]) rfl rfl))
theorem rest_bytes (s : ByteArray) (p : Nat) : (s.extract p s.size).data.toList = s.data.toList.drop p := by
  rw [ByteArray.data_extract, Array.toList_extract, List.extract_eq_take_drop, List.take_of_length_le]
  rw [List.length_drop, bs_len]; exact Nat.le_refl _
theorem rest_size (s : ByteArray) (p : Nat) : (s.extract p s.size).size = s.size - p := by
  rw [ByteArray.size_extract, Nat.min_self]
theorem rest_get (s : ByteArray) (p j : Nat) : (s.data.toList.drop p)[j]? = s.data.toList[p + j]? := by
  rw [List.getElem?_drop]
/-- The next cut: none is left, or it stands there. -/
theorem next_cut {c : UInt8} {s : ByteArray} {p : Nat} (hp : p ≤ s.size) (hc : 0 < (s.data.toList.drop p).count c) :
    ∃ o : Nat, Lib.indexByte (s.data.toList.drop p) c = o ∧ p + o < s.size ∧ pcs c s (s.size - p) p p = s.extract p (p + o) :: pcs c s (s.size - (p + o + 1)) (p + o + 1) (p + o + 1) := by
  have hge := Lib.indexByte_ge (s.data.toList.drop p) c
  by_cases h : Lib.indexByte (s.data.toList.drop p) c = -1
  · exfalso
    obtain ⟨k, hk⟩ := List.getElem?_of_mem (List.count_pos_iff.1 hc)
    exact Lib.indexByte_none h k hk
  · obtain ⟨o, ho⟩ : ∃ o : Nat, Lib.indexByte (s.data.toList.drop p) c = o := ⟨(Lib.indexByte (s.data.toList.drop p) c).toNat, by omega⟩
    obtain ⟨h1, h2⟩ := Lib.indexByte_some ho
    rw [rest_get] at h1
    have hlt := lt_of_getl h1
    rw [bs_len] at hlt
    refine ⟨o, ho, hlt, ?_⟩
    rw [pcs_skip o (by omega) (fun j hj hb => ?_), pcs_hit hlt (getD_of h1)]
    have hl : p + j < s.data.toList.length := by rw [bs_len]; omega
    refine h2 j hj ?_
    rw [rest_get, List.getElem?_eq_getElem hl]
    rw [List.getD_eq_getElem?_getD, List.getElem?_eq_getElem hl] at hb
    simpa using hb
theorem no_cut {c : UInt8} {s : ByteArray} {p : Nat} (hp : p ≤ s.size) (hc : (s.data.toList.drop p).count c = 0) : pcs c s (s.size - p) p p = [s.extract p s.size] := by
  rw [pcs_skip (s.size - p) (by omega) (fun j hj hb => ?_), show p + (s.size - p) = s.size from by omega, pcs_end]
  have hl : p + j < s.data.toList.length := by rw [bs_len]; omega
  have h0 := List.count_eq_zero.1 hc
  refine h0 (List.mem_of_getElem? (i := j) ?_)
  rw [rest_get, List.getElem?_eq_getElem hl]
  rw [List.getD_eq_getElem?_getD, List.getElem?_eq_getElem hl] at hb
  simpa using hb
theorem runs_56 (s : ByteArray) (hs : s.size ≤ 2 ^ 20) :
    Runs Tryz.prog 56 [.one (.v (.str s)), .one (.v (.str ⟨#[47]⟩)), .one (.v (.int .i64 0)), .one (.v (.int .i64 (-1)))] [.one (.v (.list true 1 ((names s).map sRow)))] [] := by
  refine runs_tab (tab := [(0, .c (.str s)), (1, .c (.str ⟨#[47]⟩)), (2, .c (.int .i64 0)), (3, .c (.int .i64 (-1)))]) (rts := []) (n := 66) (k := 4) Tryz.func56 rfl rfl (by simp) rfl (fun t => ?_) rfl ?_
  · rcases t with _ | _ | _ | _ | t <;> rfl
  have z : ((ByteArray.size ⟨#[47]⟩ : Nat) : Int) = 1 := rfl
  have z' : ((Array.size #[(47 : UInt8)] : Nat) : Int) = 1 := rfl
  have hn := names_len s
  have hle := names_le s
  obtain ⟨n, hN⟩ : ∃ n, n = s.data.toList.count 47 := ⟨_, rfl⟩
  rw [← hN] at hn
  refine vw_go rfl ?_; simp only [go_sem,setCells,setIn]
  refine vw_seq ?_
  refine vw_go rfl ?_; simp only [go_sem,setCells,setIn]
  refine vw_cond (t := false) rfl (fun h => ?_) (fun h => ?_)
  · cases h
  refine vw_skip (n_then ?_)
  refine vw_seq ?_
  refine vw_go rfl ?_; simp only [go_sem,setCells,setIn]
  refine vw_cond (t := false) rfl (fun h => ?_) (fun h => ?_)
  · cases h
  refine vw_skip (n_then ?_)
  refine vw_seq ?_
  refine vw_go rfl ?_; simp only [go_sem,setCells,setIn]
  refine vw_cond (t := true) rfl (fun h => ?_) (fun h => ?_)
  case refine_2 => cases h
  have w1 : IntKind.wrap .i64 ((n : Int) + 1) = ((n + 1 : Nat) : Int) := by rw [wrap_i64 (by omega) (by omega)]; rfl
  have w2 : IntKind.wrap .i64 ((s.size : Int) + 1) = (s.size : Int) + 1 := wrap_i64 (by omega) (by omega)
  have w3 : IntKind.wrap .i64 (((n + 1 : Nat) : Int) - 1) = (n : Int) := by rw [wrap_i64 (by omega) (by omega)]; omega
  have m1 : ((s.size : Int) + 1 < ((n + 1 : Nat) : Int)) = False := eq_false (by omega)
  have b1 : (0:Int) ≤ ((n + 1 : Nat) : Int) := by omega
  have b2 : ((n + 1 : Nat) : Int) * (((16:Nat):Int) + 1) ≤ ((bigRow : Nat) : Int) := by simp only [bigRow]; omega
  have b3 : ((n + 1 : Nat) : Int) ≤ ((n + 1 : Nat) : Int) := by omega
  refine vw_last rfl ?_
  simp only [go_sem,setCells,setIn]
  refine ⟨_, _, call_rd [0, 0] Tryz.func83 (runs_83 s 47) rfl rfl rfl rfl rfl rfl rfl rfl rfl rfl rfl rfl rfl, ?_⟩
  rw [← hN]
  simp only [runH,runX,w1,go_sem,setCells,setIn]
  refine (n_then ?_)
  refine vw_go rfl ?_; simp only [w2,m1,go_sem,setCells,setIn]
  refine vw_go rfl ?_; simp only [b1,b2,b3,Int.toNat_natCast,go_sem,setCells,setIn]
  refine vw_go rfl ?_; simp only [w3,go_sem,setCells,setIn]
  refine vw_go rfl ?_; simp only [go_sem,setCells,setIn]
  refine vw_seq ?_
  refine vw_block ?_
  refine vw_loop_tab (α := Nat × Nat) (fun x => n - x.2) (fun x => ⟨tabE [(0, .c (.str (s.extract x.1 s.size))), (1, .c (.str ⟨#[47]⟩)), (2, .c (.int .i64 0)), (3, .c (.int .i64 n)), (9, .al 4 [] 0 1 0 (n + 1)), (10, .c (.int .i64 x.2))], tabS [(4, some ⟨false, 1, fillW sRow zS (names s) x.2, []⟩)], 5⟩)
    (fun x => x.1 ≤ s.size ∧ x.2 ≤ n ∧ (names s).drop x.2 = pcs 47 s (s.size - x.1) x.1 x.1) (x := (0, 0)) ?round ?h0 ?hn
  case h0 => exact ⟨Nat.zero_le _, Nat.zero_le _, rfl⟩
  case hn =>
    refine norm_to [(333828, 4)] rfl ?_ ?_ <;> simp only [go_sem]
    · rw [show s.extract (0, 0).1 s.size = s from Lib.whole_piece s]
    · simp [fillW_zero,zS,hn]
  rintro ⟨p, i⟩ ⟨hp, hi, hd⟩
  simp only at hp hi hd
  have hcnt : (s.data.toList.drop p).count 47 = n - i := by
    have h1 := pcs_len (c := 47) (s := s) (s.size - p) p p (by omega)
    rw [← hd, List.length_drop] at h1
    omega
  have e1 : (fillW sRow zS (names s) i).length = n + 1 := by rw [fillW_len (by omega), hn]
  have e2 : (fillW sRow zS (names s) i).getD i [] = zS := fillW_get (by omega)
  have e4 : zS.length = 1 := rfl
  have c1 : (0:Int) ≤ (i:Int) := by omega
  have c2 : (i:Int) < ((n + 1 : Nat) : Int) := by omega
  have c3 : i < n + 1 := by omega
  refine vw_seq ?_
  refine vw_go rfl ?_; simp only [go_sem,setCells,setIn]
  refine vw_cond (t := decide ((i : Int) < (n : Int))) rfl (fun h => ?_) (fun h => ?_)
  · simp only [decide_eq_true_eq] at h
    obtain ⟨o, ho, hlt, hcut⟩ := next_cut (c := 47) hp (by omega)
    rw [hcut] at hd
    have hx : (names s)[i]? = some (s.extract p (p + o)) := by
      have : ((names s).drop i)[0]? = some (s.extract p (p + o)) := by rw [hd]; rfl
      rw [List.getElem?_drop] at this; simpa using this
    have hd' : (names s).drop (i + 1) = pcs 47 s (s.size - (p + o + 1)) (p + o + 1) (p + o + 1) := by
      have := drop_of hx
      rw [hd] at this
      exact (List.cons.inj this).2.symm
    have e3 : setCells i 0 [.str (s.extract p (p + o))] (fillW sRow zS (names s) i) = fillW sRow zS (names s) (i + 1) := fillW_set hx rfl rfl
    have rI := runs_84 (s.extract p s.size) 47
    rw [rest_bytes, ho] at rI
    have rz := rest_size s p
    have w4 : IntKind.wrap .i64 ((o : Int) + 0) = (o : Int) := by rw [wrap_i64 (by omega) (by omega)]; omega
    have w5 : IntKind.wrap .i64 ((o : Int) + 1) = ((o + 1 : Nat) : Int) := by rw [wrap_i64 (by omega) (by omega)]; rfl
    have w6 : IntKind.wrap .i64 ((i : Int) + 1) = ((i + 1 : Nat) : Int) := by rw [wrap_i64 (by omega) (by omega)]; rfl
    have d1 : (0:Int) ≤ (o : Int) := by omega
    have d2 : 0 ≤ o ∧ o ≤ s.size - p := by omega
    have d3 : (0:Int) ≤ ((o + 1 : Nat) : Int) := by omega
    have d4 : o + 1 ≤ s.size - p := by omega
    have x1 : (s.extract p s.size).extract 0 o = s.extract p (p + o) := by
      rw [ByteArray.extract_extract, Nat.add_zero, Nat.min_eq_left (by omega)]
    have x2 : (s.extract p s.size).extract (o + 1) (s.size - p) = s.extract (p + o + 1) s.size := by
      rw [ByteArray.extract_extract, show p + (s.size - p) = s.size from by omega, Nat.min_self, Nat.add_assoc]
    refine vw_skip (n_then ?_)
    refine vw_block ?_
    refine vw_go rfl ?_; simp only [go_sem,setCells,setIn]
    refine ⟨_, _, call_rd [0, 0] Tryz.func84 (rI) rfl rfl rfl rfl rfl rfl rfl rfl rfl rfl rfl rfl rfl, ?_⟩
    simp only [runH,runX,go_sem,setCells,setIn]
    refine vw_seq ?_
    refine vw_go rfl ?_; simp only [go_sem,setCells,setIn]
    refine vw_cond (t := false) (by simp [ev,tabE_cons]) (fun h => ?_) (fun h => ?_)
    · cases h
    refine vw_skip (n_then ?_)
    refine vw_go rfl ?_; simp only [w4,d1,d2,c1,c2,e1,e2,e3,e4,c3,rz,x1,Int.toNat_natCast,go_sem]
    refine vw_go rfl ?_; simp only [z,z',w5,d3,d4,rz,x2,Nat.le_refl,Int.toNat_natCast,go_sem,setCells,setIn]
    refine vw_last rfl ?_; simp only [w6,go_sem,setCells,setIn]
    refine (n_block (n_then ?_))
    refine ⟨(p + o + 1, i + 1), by simp only; omega, ⟨by simp only; omega, by simp only; omega, hd'⟩, ?_⟩
    refine norm_to [(4, 4)] rfl ?_ ?_ <;> simp only [go_sem]
  · simp only [decide_eq_false_iff_not] at h
    obtain rfl : i = n := by omega
    rw [no_cut hp (by omega)] at hd
    have hx : (names s)[i]? = some (s.extract p s.size) := by
      have : ((names s).drop i)[0]? = some (s.extract p s.size) := by rw [hd]; rfl
      rw [List.getElem?_drop] at this; simpa using this
    have e3 : setCells i 0 [.str (s.extract p s.size)] (fillW sRow zS (names s) i) = fillW sRow zS (names s) (i + 1) := fillW_set hx rfl rfl
    have d3 : (0:Int) ≤ ((i + 1 : Nat) : Int) := by omega
    refine vw_exit (x_then (x_then (x_block (n_then ?_))))
    refine vw_go rfl ?_; simp only [c1,c2,e1,e2,e3,e4,c3,Int.toNat_natCast,go_sem]
    refine vw_go rfl ?_; simp only [w1,d3,Nat.le_refl,Int.toNat_natCast,Nat.sub_zero,go_sem,setCells,setIn]
    rw [← fillW_end sRow zS (names s), hn]
    exact vw_ret (e_ret (ret_of rfl rfl (by simp [RB]) rfl (take_whole (R := ⟨false, 1, fillW sRow zS (names s) (i + 1), []⟩) rfl rfl rfl (by rw [fillW_len (by omega), hn]))))
end Go.Proofs.YtkijdbljnefeaaaGreatDoor
namespace Go.Proofs.YtkijdbljnefeaaaGreatDoor
open Go.VM
set_option maxRecDepth 100000
attribute [local congr] vw_congr runV_congr runH_congr runW_congr runX_congr stuckV_congr stuckX_congr
theorem pcs_size {c : UInt8} {s : ByteArray} : ∀ (n fr i : Nat), ∀ x ∈ pcs c s n fr i, x.size ≤ s.size
  | 0, fr, i, x, h => by
    rw [pcs, List.mem_singleton] at h
    subst h
    rw [ByteArray.size_extract]; omega
  | n + 1, fr, i, x, h => by
    rw [pcs] at h
    split at h
    · rcases List.mem_cons.1 h with rfl | h
      · rw [ByteArray.size_extract]; omega
      · exact pcs_size n _ _ x h
    · exact pcs_size n _ _ x h
theorem names_size {s x : ByteArray} (h : x ∈ names s) : x.size ≤ s.size := pcs_size _ _ _ x h
theorem namesZ_size {s x : ByteArray} (h : x ∈ namesZ s) : x.size ≤ s.size := by
  unfold namesZ at h
  split at h
  · cases h
  · exact names_size h
def pathOk (s : ByteArray) : Bool := (namesZ s).all nameOk && decide (((namesZ s).length : Int) ≤ 4)
theorem namesZ_le (s : ByteArray) : (namesZ s).length ≤ s.size + 1 := by
  unfold namesZ; split
  · exact Nat.zero_le _
  · exact names_le s
theorem runs_35 (s : ByteArray) (hs : s.size ≤ 2 ^ 20) : Runs Tryz.prog 35 [.one (.v (.str s)), .one (.v (.str ⟨#[47]⟩))] [.one (.v (.list true 1 ((names s).map sRow)))] [] := by
  refine runs_tab (tab := [(0, .c (.str s)), (1, .c (.str ⟨#[47]⟩))]) (rts := []) (n := 8) (k := 2) Tryz.func35 rfl rfl (by simp) rfl (fun t => ?_) rfl ?_
  · rcases t with _ | _ | t <;> rfl
  refine vw_go rfl ?_; simp only [go_sem,setCells,setIn]
  refine vw_go rfl ?_; simp only [go_sem,setCells,setIn]
  refine ⟨_, _, call_rx [0, 0, 0, 0] Tryz.func56 (runs_56 s hs) rfl rfl rfl rfl rfl rfl rfl (by simp [lendAll,lendC,seek,fresh,nav,rcells,RT.cells,VV.cells,tabE_cons,tabS_cons,ev,take_map_len,sRow_clean,lit]) rfl (by simp [rcells,RT.cells,CT.clean,T.clean,sRow_clean,lit]) rfl rfl, ?_⟩
  simp only [runH,runX,go_sem,setCells,setIn]
  exact vw_ret (e_ret (ret_by rfl rfl (by simp [RB]) rfl (by simp only [takeCs,takeC,go_sem,setCells,setIn])))
theorem runs_37 (s : ByteArray) (hs : s.size < 2 ^ 62) : Runs Tryz.prog 37 [.one (.v (.str s))] [.one (.v (.bool (!nameOk s)))] [] := by
  refine runs_tab (tab := [(0, .c (.str s))]) (rts := []) (n := 6) (k := 1) Tryz.func37 rfl rfl (by simp) rfl (fun t => ?_) rfl ?_
  · rcases t with _ | t <;> rfl
  refine vw_go rfl ?_; simp only [go_sem,setCells,setIn]
  refine vw_go rfl ?_; simp only [go_sem,setCells,setIn]
  refine ⟨_, _, call_rd [0] Tryz.func38 (runs_38 s hs) rfl rfl rfl rfl rfl rfl rfl rfl rfl rfl rfl rfl rfl, ?_⟩
  simp only [runH,runX,go_sem,setCells,setIn]
  exact vw_ret (e_ret (ret_of rfl rfl (by simp [RB]) rfl rfl))
theorem runs_55 (s : ByteArray) (hs : s.size ≤ 2 ^ 20) : Runs Tryz.prog 55 [.one (.v (.str s))] [.one (.v (.bool (pathOk s)))] [] := by
  refine runs_tab (tab := [(0, .c (.str s))]) (rts := []) (n := 22) (k := 1) Tryz.func55 rfl rfl (by simp) rfl (fun t => ?_) rfl ?_
  · rcases t with _ | t <;> rfl
  have hl := namesZ_le s
  have hsz : ∀ x ∈ namesZ s, x.size ≤ s.size := fun x h => namesZ_size h
  have hr := runs_80 s hs
  have hpo : pathOk s = ((namesZ s).all nameOk && decide (((namesZ s).length : Int) ≤ 4)) := rfl
  generalize namesZ s = l at hl hsz hr hpo
  refine vw_go rfl ?_; simp only [go_sem,setCells,setIn]
  refine vw_go rfl ?_; simp only [go_sem,setCells,setIn]
  refine ⟨_, _, call_rx [0] Tryz.func80 (hr) rfl rfl rfl rfl rfl rfl rfl (by simp [lendAll,lendC,seek,fresh,nav,rcells,RT.cells,VV.cells,tabE_cons,tabS_cons,ev,take_map_len,sRow_clean,lit]) rfl (by simp [rcells,RT.cells,CT.clean,T.clean,sRow_clean,lit]) rfl rfl, ?_⟩
  simp only [runH,runX,go_sem,setCells,setIn]
  refine vw_seq ?_
  refine vw_go rfl ?_; simp only [go_sem,setCells,setIn]
  refine vw_block ?_
  refine vw_loop_tab (α := Nat) (fun x => l.length - x) (fun x => ⟨tabE [(0, .c (.str s)), (3, .al 1 [] 0 1 0 l.length), (4, .c (.int .i64 x))], tabS [(1, some ⟨false, 1, l.map sRow, []⟩)], 2⟩)
    (fun x => x ≤ l.length ∧ (l.drop x).all nameOk = l.all nameOk) (x := 0) ?round ?h0 ?hn
  case h0 => exact ⟨Nat.zero_le _, rfl⟩
  case hn =>
    refine norm_to [(66561, 1)] rfl ?_ ?_ <;> simp only [go_sem]
  rintro i ⟨hi, hm⟩
  refine vw_seq ?_
  refine vw_go rfl ?_; simp only [go_sem,setCells,setIn]
  refine vw_cond (t := decide ((i : Int) < l.length)) rfl (fun h => ?_) (fun h => ?_)
  · refine vw_skip (n_then ?_)
    rcases get_or l i with ⟨x, hx, hlt⟩ | ⟨_, hge⟩
    case inr => simp only [decide_eq_true_eq] at h; omega
    have c1 : (0:Int) ≤ (i:Int) := by omega
    have c2 : (i:Int) < (l.length : Int) := by omega
    have hxs := hsz x (List.mem_of_getElem? hx)
    rw [drop_of hx, List.all_cons] at hm
    refine vw_seq ?_
    refine vw_block ?_
    refine vw_go rfl ?_; simp only [c1,c2,Int.toNat_natCast,getD_map_of hx,sRow,hlt,go_sem,setCells,setIn]
    refine ⟨_, _, call_rd [0] Tryz.func81 (runs_81 x (by omega)) rfl rfl rfl rfl rfl rfl rfl rfl rfl rfl rfl rfl rfl, ?_⟩
    simp only [runH,runX,go_sem,setCells,setIn]
    refine vw_cond (t := !nameOk x) rfl (fun h => ?_) (fun h => ?_)
    · (refine vw_go rfl ?_; simp only [go_sem,setCells,setIn])
      have h' : nameOk x = false := by simpa using h
      rw [h', Bool.false_and] at hm
      rw [show pathOk s = false from by rw [hpo, ← hm, Bool.false_and]]
      exact vw_ret (r_block (r_then (r_then (r_block (r_then (e_ret (ret_of rfl rfl (by simp [RB]) rfl rfl)))))))
    · refine vw_skip (n_block (n_then ?_))
      have h' : nameOk x = true := by simpa using h
      rw [h', Bool.true_and] at hm
      have w2 : IntKind.wrap .i64 ((i:Int) + 1) = ((i + 1 : Nat) : Int) := by rw [wrap_i64 (by omega) (by omega)]; rfl
      refine vw_last rfl ?_; simp only [w2,go_sem,setCells,setIn]
      refine (n_then ?_)
      refine ⟨i + 1, by omega, ⟨hlt, hm⟩, ?_⟩
      refine norm_to [(1, 1)] rfl ?_ ?_ <;> simp only [go_sem]
  · refine vw_exit (x_then (x_then (x_block (n_then ?_))))
    refine vw_go rfl ?_; simp only [go_sem,setCells,setIn]
    simp only [decide_eq_false_iff_not] at h
    have : i = l.length := by omega
    subst this
    rw [List.drop_length, List.all_nil] at hm
    rw [hpo, ← hm, Bool.true_and]
    exact vw_ret (e_ret (ret_of rfl rfl (by simp [RB]) rfl rfl))
theorem runs_17 (s : ByteArray) (hs : s.size ≤ 2 ^ 20) : Runs Tryz.prog 17 [.one (.v (.str s))] [.one (.v (.bool (pathOk s)))] [] := by
  refine runs_tab (tab := [(0, .c (.str s))]) (rts := []) (n := 16) (k := 1) Tryz.func17 rfl rfl (by simp) rfl (fun t => ?_) rfl ?_
  · rcases t with _ | t <;> rfl
  have hl := names_le s
  refine vw_go rfl ?_; simp only [go_sem,setCells,setIn]
  refine vw_seq ?_
  refine vw_go rfl ?_; simp only [go_sem,setCells,setIn]
  refine vw_cond (t := decide (s = ⟨#[]⟩)) rfl (fun h => ?_) (fun h => ?_)
  · (refine vw_go rfl ?_; simp only [go_sem,setCells,setIn])
    simp only [decide_eq_true_eq] at h
    rw [show pathOk s = true from by simp [pathOk,namesZ,h]]
    exact vw_ret (r_then (e_ret (ret_of rfl rfl (by simp [RB]) rfl rfl)))
  refine vw_skip (n_then ?_)
  simp only [decide_eq_false_iff_not] at h
  have hpo : pathOk s = ((names s).all nameOk && decide (((names s).length : Int) ≤ 4)) := by rw [pathOk, namesZ, if_neg h]
  have hC := runs_36 (names s) (by omega) 37 Tryz.f37 (fun x => !nameOk x) Tryz.func37 rfl rfl (fun x hx => runs_37 x (by have := names_size hx; omega))
  refine vw_go rfl ?_; simp only [go_sem,setCells,setIn]
  refine ⟨_, _, call_rx [0, 0] Tryz.func35 (runs_35 s hs) rfl rfl rfl rfl rfl rfl rfl (by simp [lendAll,lendC,seek,fresh,nav,rcells,RT.cells,VV.cells,tabE_cons,tabS_cons,ev,take_map_len,sRow_clean,lit]) rfl (by simp [rcells,RT.cells,CT.clean,T.clean,sRow_clean,lit]) rfl rfl, ?_⟩
  simp only [runH,runX,go_sem,setCells,setIn]
  by_cases h4 : ((names s).length : Int) ≤ 4
  · (refine vw_go rfl ?_; simp only [h4,go_sem,setCells,setIn])
    refine ⟨_, _, call_rx [0, 0] Tryz.func36 (hC) rfl rfl rfl rfl rfl rfl rfl (by simp [lendAll,lendC,seek,fresh,nav,rcells,RT.cells,VV.cells,tabE_cons,tabS_cons,ev,take_map_len,sRow_r1,sRow_clean]) rfl (by simp [rcells,RT.cells,CT.clean,T.clean,sRow_r1,sRow_clean]) rfl rfl, ?_⟩
    simp only [runH,runX,go_sem,setCells,setIn]
    rw [show pathOk s = !(names s).any (fun x => !nameOk x) from by rw [hpo]; simp [h4,List.all_eq_not_any_not]]
    exact vw_ret (e_ret (ret_of rfl rfl (by simp [RB]) rfl rfl))
  · (refine vw_go rfl ?_; simp only [h4,go_sem,setCells,setIn])
    rw [show pathOk s = false from by rw [hpo]; simp [h4]]
    exact vw_ret (e_ret (ret_of rfl rfl (by simp [RB]) rfl rfl))
end Go.Proofs.YtkijdbljnefeaaaGreatDoor
namespace Go.Proofs.YtkijdbljnefeaaaGreatDoor
open Go.VM Go
set_option maxRecDepth 100000
attribute [local congr] vw_congr runV_congr runH_congr runW_congr runX_congr stuckV_congr stuckX_congr
theorem nodeRead_kids (s : ByteArray) : ∀ y ∈ (nodeRead s).1.kids, 1 ≤ y ∧ y ≤ 11 := by
  by_cases h : (nodeRead s).2 = true
  · exact (nodeOk_kids (nodeRead_ok h)).1
  · have : (nodeRead s).1 = nodeZ := by
      unfold nodeRead at h ⊢
      split
      · rfl
      · split
        · rename_i h0 h1; rw [if_neg h0, if_pos h1] at h; exact absurd rfl h
        · rfl
    rw [this]; exact fun y hy => nomatch hy
theorem nodeRead_len (s : ByteArray) : (nodeRead s).1.kids.length ≤ 11 ∧ (nodeRead s).1.names.length = (nodeRead s).1.kids.length := by
  by_cases h : (nodeRead s).2 = true
  · exact ⟨nodeOk_few (nodeRead_ok h), (nodeOk_kids (nodeRead_ok h)).2⟩
  · have : (nodeRead s).1 = nodeZ := by
      unfold nodeRead at h ⊢
      split
      · rfl
      · split
        · rename_i h0 h1; rw [if_neg h0, if_pos h1] at h; exact absurd rfl h
        · rfl
    rw [this]; exact ⟨Nat.zero_le _, rfl⟩
theorem runs_120 (l : List ByteArray) (hl : l.length = 12) (hsz : ∀ s ∈ l, s.size ≤ 2 ^ 20) (p : ByteArray) (hp : p.size ≤ 2 ^ 20) :
    Runs Tryz.prog 120 [.one (.v (.list false 1 (l.map sRow))), .one (.v (.str p))] [.one (.v (.int .i64 (walkG l (namesZ p) 0)))] [] := by
  refine runs_tab (tab := [(0, .c (.list false 1 (l.map sRow))), (1, .c (.str p))]) (rts := []) (n := 35) (k := 2) Tryz.func120 rfl rfl (by simp) rfl (fun t => ?_) rfl ?_
  · rcases t with _ | _ | t <;> rfl
  have rN := runs_80 p hp
  have hle := namesZ_le p
  generalize namesZ p = st at rN hle ⊢
  have bs : List.take st.length (st.map sRow) = st.map sRow := List.take_of_length_le (by simp)
  refine vw_go rfl ?_; simp only [go_sem,setCells,setIn]
  refine vw_go rfl ?_; simp only [go_sem,setCells,setIn]
  refine vw_go rfl ?_; simp only [go_sem,setCells,setIn]
  refine ⟨_, _, call_rx [0] Tryz.func80 (rN) rfl rfl rfl rfl rfl rfl rfl (by simp [lendAll,lendC,seek,fresh,nav,rcells,RT.cells,VV.cells,tabE_cons,tabS_cons,ev,take_map_len,sRow_r1,sRow_clean]) rfl (by simp [rcells,RT.cells,CT.clean,T.clean,sRow_r1,sRow_clean]) rfl rfl, ?_⟩
  simp only [runH,runX,go_sem,setCells,setIn]
  refine vw_seq ?_
  refine vw_go rfl ?_; simp only [go_sem,setCells,setIn]
  refine vw_block ?_
  refine vw_loop_tab (α := Nat × Nat) (fun x => st.length - x.1) (fun x => ⟨tabE [(0, .c (.list false 1 (l.map sRow))), (5, .c (.int .i64 x.2)), (6, .al 2 [] 0 1 0 st.length), (7, .c (.int .i64 x.1))], tabS [(2, some ⟨false, 1, st.map sRow, []⟩)], 3⟩)
    (fun x => x.1 ≤ st.length ∧ walkG l (st.drop x.1) x.2 = walkG l st 0 ∧ x.2 < 12) (x := (0, 0)) ?round ?h0 ?hn
  case h0 => exact ⟨Nat.zero_le _, rfl, by decide⟩
  case hn =>
    refine norm_to [(132098, 2)] rfl ?_ ?_ <;> simp only [go_sem]
  rintro ⟨i, k⟩ ⟨hi, hg, hk⟩
  simp only at hi hg hk
  refine vw_seq ?_
  by_cases hc : (i : Int) < st.length
  case neg =>
    rw [List.drop_eq_nil_of_le (by omega), walkG] at hg
    rw [← hg]
    refine vw_go rfl ?_; simp only [hc,go_sem,setCells,setIn]
    refine vw_cond (t := false) rfl (fun h => nomatch h) (fun _ => ?_)
    refine vw_exit (x_then (x_then (x_block (n_then ?_))))
    refine vw_go rfl ?_; simp only [go_sem,setCells,setIn]
    exact vw_ret (e_ret (ret_of rfl rfl (by simp [RB]) rfl rfl))
  have hin : i < st.length := by omega
  obtain ⟨s, hs⟩ : ∃ s, st[i]? = some s := ⟨_, List.getElem?_eq_getElem hin⟩
  have hds : st.drop i = s :: st.drop (i + 1) := by
    rw [List.drop_eq_getElem_cons hin]
    congr 1
    rw [List.getElem?_eq_getElem hin] at hs
    exact Option.some.inj hs
  obtain ⟨t, ht⟩ : ∃ t, l[k]? = some t := ⟨_, List.getElem?_eq_getElem (by omega)⟩
  rw [hds, walkG, Int.toNat_natCast, getD_of ht] at hg
  have rR := runs_85 t (hsz t (List.mem_of_getElem? ht)) _ rfl
  have hlen := nodeRead_len t
  have hkr := nodeRead_kids t
  generalize nodeRead t = r at rR hg hlen hkr
  obtain ⟨n, ok⟩ := r
  simp only at rR hg hlen hkr
  have rK := runs_151 n (by omega) (by omega) s
  have hin2 := kidF_in n s
  generalize kidF n s = y at rK hg hin2
  have d0 : (0:Int) ≤ (i : Int) := by omega
  have k0 : (0:Int) ≤ (k : Int) := by omega
  have k1 : (k : Int) < l.length := by omega
  have k2 : k < l.length := by omega
  have w3 : IntKind.wrap .i64 ((i:Int) + 1) = ((i + 1 : Nat) : Int) := by rw [wrap_i64 (by omega) (by omega)]; rfl
  have bn : List.take n.names.length (n.names.map sRow) = n.names.map sRow := List.take_of_length_le (by simp)
  have bk : List.take n.kids.length (n.kids.map nRow) = n.kids.map nRow := List.take_of_length_le (by simp)
  refine vw_go rfl ?_; simp only [hc,go_sem,setCells,setIn]
  refine vw_cond (t := true) rfl (fun _ => ?_) (fun h => nomatch h)
  refine vw_skip (n_then ?_)
  refine vw_seq ?_
  refine vw_block ?_
  refine vw_go rfl ?_; simp only [k0,k1,k2,Int.toNat_natCast,getD_map_of ht,sRow,go_sem,setCells,setIn]
  refine ⟨_, _, call_rx [0] Tryz.func85 (rR) rfl rfl rfl rfl rfl rfl rfl (by simp [lendAll,lendC,seek,fresh,nav,rcells,RT.cells,VV.cells,tabE_cons,tabS_cons,ev,take_map_len,sRow_r1,sRow_comp,sRow_clean,nRow_r1,nRow_comp,nRow_clean]) rfl (by simp [rcells,RT.cells,CT.clean,T.clean,sRow_r1,sRow_comp,sRow_clean,nRow_r1,nRow_comp,nRow_clean]) rfl rfl, ?_⟩
  simp only [runH,runX,bn,bk,go_sem,setCells,setIn]
  refine vw_draw mixed rfl rfl ?_; simp only [d0,hc,hin,Int.toNat_natCast,getD_map_of hs,sRow,List.drop_length,bn,bk,go_sem,setCells,setIn]
  refine ⟨_, _, _, call_rx_at [0, 0] [73731] Tryz.func151 (rK) rfl rfl rfl rfl rfl rfl rfl (fun st1 hst1 => by (try simp only [List.mem_cons,List.not_mem_nil,or_false,false_or,forall_eq_or_imp,forall_eq] at hst1); simp [lendAll,lendC,seek,fresh,nav,rcells,RT.cells,VV.cells,tabE_cons,tabS_cons,ev,take_map_len,hst1,sRow_r1,sRow_comp,sRow_clean,nRow_r1,nRow_comp,nRow_clean,bn,bk]) rfl (by simp [rcells,RT.cells,CT.clean,T.clean,sRow_r1,sRow_comp,sRow_clean,nRow_r1,nRow_comp,nRow_clean,bn,bk]) rfl rfl, ?_⟩
  simp only [runH,runX,go_sem,setCells,setIn]
  refine ⟨by unfold allOk; kernel_rfl, ?_⟩
  rcases hin2 with rfl | hy
  · rw [if_pos (by decide)] at hg
    rw [← hg]
    refine vw_go rfl ?_; simp only [go_sem,setCells,setIn]
    refine vw_cond (t := true) rfl (fun _ => ?_) (fun h => nomatch h)
    refine vw_go rfl ?_; simp only [go_sem,setCells,setIn]
    exact vw_ret (r_block (r_then (r_then (r_block (r_then (e_ret (ret_of rfl rfl (by simp [RB]) rfl rfl)))))))
  obtain ⟨y1, y2⟩ := hkr y hy
  have g0 : ¬ y < 0 := by omega
  rw [if_neg g0] at hg
  obtain ⟨y, rfl⟩ : ∃ m : Nat, y = m := ⟨y.toNat, by omega⟩
  refine vw_go rfl ?_; simp only [g0,go_sem,setCells,setIn]
  refine vw_cond (t := false) rfl (fun h => nomatch h) (fun _ => ?_)
  refine vw_skip (n_block (n_then ?_))
  refine vw_last rfl ?_; simp only [w3,go_sem,setCells,setIn]
  refine (n_then ?_)
  refine ⟨(i + 1, y), by simp only; omega, ⟨by simp only; omega, hg, by simp only; omega⟩, ?_⟩
  refine norm_to [(2, 2)] rfl ?_ ?_ <;> simp only [go_sem]
end Go.Proofs.YtkijdbljnefeaaaGreatDoor
namespace Go.Proofs.YtkijdbljnefeaaaGreatDoor
open Go.VM
set_option maxRecDepth 100000
attribute [local congr] vw_congr runV_congr runH_congr runW_congr runX_congr stuckV_congr stuckX_congr
/-- Behind the last '/' of so many bytes; 0 where none is. -/
def lastCut (l : List UInt8) : Nat → Nat
  | 0 => 0
  | n + 1 => if l.getD n 0 = 47 then n + 1 else lastCut l n
def splitF (s : ByteArray) : ByteArray × ByteArray × Bool :=
  if s = ⟨#[]⟩ ∨ pathOk s = false then (⟨#[]⟩, ⟨#[]⟩, false)
  else if lastCut s.data.toList s.size = 0 then (⟨#[]⟩, s, true)
  else (s.extract 0 (lastCut s.data.toList s.size - 1), s.extract (lastCut s.data.toList s.size) s.size, true)
theorem splitF_nil {s : ByteArray} (h : s = ⟨#[]⟩) : splitF s = (⟨#[]⟩, ⟨#[]⟩, false) := by rw [splitF, if_pos (.inl h)]
theorem splitF_bad {s : ByteArray} (h : pathOk s = false) : splitF s = (⟨#[]⟩, ⟨#[]⟩, false) := by rw [splitF, if_pos (.inr h)]
theorem splitF_top {s : ByteArray} (h1 : ¬ s = ⟨#[]⟩) (h2 : pathOk s = true) (h3 : lastCut s.data.toList s.size = 0) : splitF s = (⟨#[]⟩, s, true) := by
  rw [splitF, if_neg (by simp [h1,h2]), if_pos h3]
theorem splitF_cut {s : ByteArray} {k : Nat} (h1 : ¬ s = ⟨#[]⟩) (h2 : pathOk s = true) (h3 : lastCut s.data.toList s.size = k + 1) : splitF s = (s.extract 0 k, s.extract (k + 1) s.size, true) := by
  rw [splitF, if_neg (by simp [h1,h2]), if_neg (by omega), h3]; rfl
theorem runs_157 (s : ByteArray) (hs : s.size ≤ 2 ^ 20) : Runs Tryz.prog 157 [.one (.v (.str s))] [.one (.v (.str (splitF s).1)), .one (.v (.str (splitF s).2.1)), .one (.v (.bool (splitF s).2.2))] [] := by
  refine runs_tab (tab := [(0, .c (.str s))]) (rts := []) (n := 36) (k := 1) Tryz.func157 rfl rfl (by simp) rfl (fun t => ?_) rfl ?_
  · rcases t with _ | t <;> rfl
  refine vw_go rfl ?_; simp only [go_sem,setCells,setIn]
  refine vw_seq ?_
  by_cases hz : s = ⟨#[]⟩
  · have hz' : decide (s = ⟨#[]⟩) = true := by simp [hz]
    refine vw_go rfl ?_; simp only [hz',go_sem,setCells,setIn]
    refine vw_cond (t := true) rfl (fun h => ?_) (fun h => ?_)
    case refine_2 => cases h
    refine vw_go rfl ?_; simp only [go_sem,setCells,setIn]
    rw [splitF_nil hz]
    exact vw_ret (r_then (e_ret (ret_of rfl rfl (by simp [RB]) rfl rfl)))
  have hz' : decide (s = ⟨#[]⟩) = false := by simp [hz]
  refine vw_go rfl ?_; simp only [hz',go_sem,setCells,setIn]
  refine ⟨_, _, call_rd [0] Tryz.func55 (runs_55 s hs) rfl rfl rfl rfl rfl rfl rfl rfl rfl rfl rfl rfl rfl, ?_⟩
  cases hp : pathOk s
  · simp only [runH,runX,go_sem,setCells,setIn]
    refine vw_cond (t := true) rfl (fun h => ?_) (fun h => ?_)
    case refine_2 => cases h
    refine vw_go rfl ?_; simp only [go_sem,setCells,setIn]
    rw [splitF_bad hp]
    exact vw_ret (r_then (e_ret (ret_of rfl rfl (by simp [RB]) rfl rfl)))
  simp only [runH,runX,go_sem,setCells,setIn]
  refine vw_cond (t := false) rfl (fun h => ?_) (fun h => ?_)
  · cases h
  refine vw_skip (n_then ?_)
  refine vw_go rfl ?_; simp only [go_sem,setCells,setIn]
  refine vw_seq ?_
  refine vw_block ?_
  refine vw_loop_tab (α := Nat) (fun x => x) (fun x => ⟨tabE [(0, .c (.str s)), (5, .c (.int .i64 x))], tabS [], 1⟩)
    (fun x => x ≤ s.size ∧ lastCut s.data.toList x = lastCut s.data.toList s.size) (x := s.size) ?round ?h0 ?hn
  case h0 => exact ⟨Nat.le_refl _, rfl⟩
  case hn => (refine norm_to [] rfl ?_ ?_ <;> simp only [go_sem])
  rintro k ⟨hk, hm⟩
  refine vw_seq ?_
  rcases k with _ | k
  · (refine vw_go rfl ?_; simp only [Int.natCast_zero,Int.lt_irrefl,go_sem,setCells,setIn])
    refine vw_cond (t := false) (by simp [ev,tabE_cons]) (fun h => ?_) (fun h => ?_)
    · cases h
    refine vw_exit (x_then (x_then (x_block (n_then ?_))))
    refine vw_seq ?_
    refine vw_go rfl ?_; simp only [go_sem,setCells,setIn]
    refine vw_cond (t := true) rfl (fun h => ?_) (fun h => ?_)
    case refine_2 => cases h
    refine vw_go rfl ?_; simp only [go_sem,setCells,setIn]
    rw [splitF_top hz hp hm.symm]
    exact vw_ret (r_then (e_ret (ret_of rfl rfl (by simp [RB]) rfl rfl)))
  rcases get_or s.data.toList k with ⟨b, hx, hlt⟩ | ⟨_, hge⟩
  case inr => rw [bs_len] at hge; omega
  have g := getD_of (d := 0) hx
  have c0 : (0:Int) < ((k + 1 : Nat) : Int) := by omega
  have c1 : (0:Int) ≤ (k:Int) := by omega
  have c2 : (k:Int) < (s.size : Int) := by omega
  have w1 : IntKind.wrap .i64 (((k + 1 : Nat) : Int) - 1) = (k : Int) := by rw [wrap_i64 (by omega) (by omega)]; omega
  rw [lastCut, g] at hm
  refine vw_go rfl ?_; simp only [c0,w1,c1,c2,Int.toNat_natCast,g,go_sem,setCells,setIn]
  refine vw_cond (t := !decide ((b.toNat : Int) = 47)) rfl (fun h => ?_) (fun h => ?_)
  · have h : ¬ (b.toNat : Int) = 47 := by simpa using h
    rw [if_neg (fun h' : b = 47 => h ((b_iff b 47 (by decide)).2 h'))] at hm
    refine vw_skip (n_then ?_)
    refine vw_block ?_
    refine vw_last rfl ?_; simp only [w1,go_sem,setCells,setIn]
    refine (n_block (n_then ?_))
    refine ⟨k, by omega, ⟨by omega, hm⟩, ?_⟩
    refine norm_to [] rfl ?_ ?_ <;> simp only [go_sem]
  · have h : (b.toNat : Int) = 47 := by simpa using h
    rw [if_pos (show b = 47 from (b_iff b 47 (by decide)).1 h)] at hm
    refine vw_exit (x_then (x_then (x_block (n_then ?_))))
    refine vw_seq ?_
    have c3 : (((k + 1 : Nat) : Int) = 0) = False := eq_false (by omega)
    have d1 : 0 ≤ k ∧ k ≤ s.size := by omega
    have d2 : k + 1 ≤ s.size ∧ s.size ≤ s.size := by omega
    have d3 : (0:Int) ≤ ((k + 1 : Nat) : Int) := by omega
    refine vw_go rfl ?_; simp only [c3,go_sem,setCells,setIn]
    refine vw_cond (t := false) rfl (fun h => ?_) (fun h => ?_)
    · cases h
    refine vw_skip (n_then ?_)
    refine vw_draw mixed rfl rfl ?_; simp only [w1,c1,d1,d2,d3,Int.toNat_natCast,go_sem,setCells,setIn]
    refine ⟨by unfold allOk; kernel_rfl, ?_⟩
    rw [splitF_cut hz hp hm.symm]
    exact vw_ret (e_ret (ret_of rfl rfl (by simp [RB]) rfl rfl))
end Go.Proofs.YtkijdbljnefeaaaGreatDoor
namespace Go.Proofs.YtkijdbljnefeaaaGreatDoor
open Go.VM
set_option maxRecDepth 100000
attribute [local congr] vw_congr runV_congr runH_congr runW_congr runX_congr stuckV_congr stuckX_congr
structure PutV where
  sector : Int
  data : ByteArray
  deriving DecidableEq
def putRow (x : PutV) : List T := [.int .i64 x.sector, .str x.data]
def PutV.ok (x : PutV) : Prop := x.data.size < 2 ^ 63
theorem putRow_r1 (x : PutV) : (putRow x).map T.toRO = putRow x := by simp [putRow]
theorem putRow_clean (l : List PutV) : cleanRs (l.map putRow) = true := clean_map (fun x => rfl) l
end Go.Proofs.YtkijdbljnefeaaaGreatDoor
