/- Items: what a volume has, of both. What is asked of a volume, of the reference: names, depth. Done of both, marks of puts, and the law of Done. -/
import Derived.Test.YtkijdbljnefeaaaGreatDoorPFKid
import Derived.Test.YtkijdbljnefeaaaGreatDoorPFNames
import Derived.Test.YtkijdbljnefeaaaGreatDoorPFItem
import Derived.Test.YtkijdbljnefeaaaGreatDoorPFRepeat
import Derived.Test.YtkijdbljnefeaaaGreatDoorPFOp
import Derived.Test.YtkijdbljnefeaaaGreatDoorPFIn
import Derived.Test.YtkijdbljnefeaaaGreatDoorPFPut
set_option linter.unusedSimpArgs false
set_option linter.unusedVariables false
namespace Go.Proofs.YtkijdbljnefeaaaGreatDoor
open Go.VM Go
set_option maxRecDepth 100000
attribute [local congr] vw_congr runV_congr runH_congr runW_congr runX_congr stuckV_congr stuckX_congr
theorem take_snocI {α β : Type} (f : α → β) (l : List α) (x : β) : List.take (l.length + 1) (l.map f ++ [x]) = l.map f ++ [x] := List.take_of_length_le (by simp)
def itemsK (l : List ByteArray) (g : Nat → ByteArray → List It3) : List ByteArray → List Int → ByteArray → List It3
  | a :: xs, b :: ys, pre => (pre ++ a, (nodeRead (l.getD b.toNat ⟨#[]⟩)).1.dir, (nodeRead (l.getD b.toNat ⟨#[]⟩)).1.data) :: (g b.toNat (pre ++ a ++ ⟨#[47]⟩) ++ itemsK l g xs ys pre)
  | _, _, _ => []
def itemsG (l : List ByteArray) : Nat → Nat → ByteArray → List It3
  | 0, _, _ => []
  | f + 1, k, pre => itemsK l (itemsG l f) (nodeRead (l.getD k ⟨#[]⟩)).1.names (nodeRead (l.getD k ⟨#[]⟩)).1.kids pre
def lim : Nat → Nat
  | 0 => 0
  | f + 1 => 11 * (1 + lim f)
theorem itemsK_len {l : List ByteArray} {g : Nat → ByteArray → List It3} {m : Nat} (hg : ∀ k pre, (g k pre).length ≤ m) : ∀ (xs : List ByteArray) (ys : List Int) (pre : ByteArray), (itemsK l g xs ys pre).length ≤ ys.length * (1 + m)
  | [], ys, pre => by unfold itemsK; exact Nat.zero_le _
  | a :: xs, [], pre => by unfold itemsK; exact Nat.zero_le _
  | a :: xs, b :: ys, pre => by
    have h1 := itemsK_len (l := l) hg xs ys pre
    have h2 := hg b.toNat (pre ++ a ++ ⟨#[47]⟩)
    rw [itemsK]
    simp only [List.length_cons,List.length_append]
    rw [Nat.add_mul, Nat.one_mul]
    omega
theorem nodeRead_few (s : ByteArray) : (nodeRead s).1.kids.length ≤ 11 ∧ (nodeRead s).1.names.length = (nodeRead s).1.kids.length := by
  by_cases h : (nodeRead s).2 = true
  · exact ⟨nodeOk_few (nodeRead_ok h), (nodeOk_kids (nodeRead_ok h)).2⟩
  · have : (nodeRead s).1 = nodeZ := by
      unfold nodeRead at h ⊢
      split
      · rfl
      · split
        · rename_i h0 h1; rw [if_neg h0, if_pos h1] at h; exact absurd rfl h
        · rfl
    rw [this]; exact ⟨Nat.zero_le _, rfl⟩
theorem itemsG_len (l : List ByteArray) : ∀ (f k : Nat) (pre : ByteArray), (itemsG l f k pre).length ≤ lim f
  | 0, k, pre => Nat.le_refl _
  | f + 1, k, pre => by
    have h := itemsK_len (l := l) (g := itemsG l f) (itemsG_len l f) (nodeRead (l.getD k ⟨#[]⟩)).1.names (nodeRead (l.getD k ⟨#[]⟩)).1.kids pre
    have h2 := (nodeRead_few (l.getD k ⟨#[]⟩)).1
    rw [itemsG, lim]
    exact Nat.le_trans h (Nat.mul_le_mul_right _ h2)
/-- From this node on a volume can be gone through. -/
def deepOk (l : List ByteArray) (f k : Nat) : Prop := ∃ m, (goI l f k m).1 = true
theorem goKids_all {g : Nat → List Bool → Bool × List Bool} : ∀ (ys : List Int) (m : List Bool), (goKids g ys m).1 = true → ∀ y ∈ ys, ∃ m', (g y.toNat m').1 = true
  | [], m, _, y, hy => nomatch hy
  | z :: ys, m, h, y, hy => by
    rw [goKids] at h
    split at h
    · rename_i hg
      rcases List.mem_cons.1 hy with rfl | hy
      · exact ⟨m, hg⟩
      · exact goKids_all ys _ h y hy
    · cases h
theorem deep_step {l : List ByteArray} {f k : Nat} (h : deepOk l f k) : ∃ g, f = g + 1 ∧ (nodeRead (l.getD k ⟨#[]⟩)).2 = true ∧ ∀ y ∈ (nodeRead (l.getD k ⟨#[]⟩)).1.kids, deepOk l g y.toNat := by
  obtain ⟨m, h⟩ := h
  cases f with
  | zero => cases h
  | succ g =>
    refine ⟨g, rfl, ?_⟩
    rw [goI] at h
    split at h
    · rename_i hc
      exact ⟨hc.1, goKids_all _ _ h⟩
    · cases h
set_option maxHeartbeats 1000000 in
def itemsV (l : List ByteArray) : List It3 := if volOk l = true then itemsG l 5 0 ⟨#[]⟩ else []
theorem volOk_deep {l : List ByteArray} (h : volOk l = true) : l.length = 12 ∧ deepOk l 5 0 := by
  unfold volOk at h
  simp only [Bool.and_eq_true,decide_eq_true_eq] at h
  exact ⟨h.1, _, h.2.1⟩
end Go.Proofs.YtkijdbljnefeaaaGreatDoor
namespace Go.Proofs.YtkijdbljnefeaaaGreatDoor
open Go.VM Go
set_option maxRecDepth 100000
attribute [local congr] vw_congr runV_congr runH_congr runW_congr runX_congr stuckV_congr stuckX_congr
def namesG (l : List ByteArray) : List ByteArray → List Int → Bool → ByteArray → ByteArray
  | a :: xs, b :: ys, more, acc => namesG l xs ys true (if (kn l b).dir = true then (if more = true then acc ++ ⟨#[32]⟩ else acc) ++ a ++ ⟨#[47]⟩ else (if more = true then acc ++ ⟨#[32]⟩ else acc) ++ a)
  | _, _, _, acc => acc
set_option maxHeartbeats 1000000 in
theorem runs_124 (l : List ByteArray) (hl : l.length = 12) (hsz : ∀ s ∈ l, s.size ≤ 2 ^ 20) (n : NodeV) (hn : n.names.length = n.kids.length) (hn1 : n.names.length ≤ 11) (hn2 : ∀ x ∈ n.names, x.size ≤ 6) (hk : ∀ y ∈ n.kids, 1 ≤ y ∧ y ≤ 11) :
    Runs Tryz.prog 124 [.one (.v (.list false 1 (l.map sRow))), .agg [.v (.bool n.dir), .v (.list false 1 (n.names.map sRow)), .v (.list false 1 (n.kids.map nRow)), .v (.str n.data)]] [.one (.v (.str (namesG l n.names n.kids false ⟨#[]⟩)))] [] := by
  refine runs_tab (tab := [(0, .c (.list false 1 (l.map sRow))), (1, .agg [.c (.bool n.dir), .c (.list false 1 (n.names.map sRow)), .c (.list false 1 (n.kids.map nRow)), .c (.str n.data)])]) (rts := []) (n := 44) (k := 5) Tryz.func124 rfl rfl (by simp) rfl (fun t => ?_) rfl ?_
  · rcases t with _ | _ | t <;> rfl
  have bn : List.take n.names.length (n.names.map sRow) = n.names.map sRow := List.take_of_length_le (by simp)
  have bk : List.take n.kids.length (n.kids.map nRow) = n.kids.map nRow := List.take_of_length_le (by simp)
  refine vw_go rfl ?_; simp only [go_sem,setCells,setIn]
  refine vw_go rfl ?_; simp only [go_sem,setCells,setIn]
  refine vw_seq ?_
  refine vw_go rfl ?_; simp only [go_sem,setCells,setIn]
  refine vw_block ?_
  refine vw_loop_tab (α := Nat × ByteArray) (fun x => n.names.length - x.1) (fun x => ⟨tabE [(0, .c (.list false 1 (l.map sRow))), (3, .ptr 5 [] 0 0 0), (5, .c (.str x.2)), (6, .c (.int .i64 x.1))], tabS [(5, some ⟨true, 4, [[.bool n.dir, .list false 1 (n.names.map sRow), .list false 1 (n.kids.map nRow), .str n.data]], []⟩)], 6⟩)
    (fun x => x.1 ≤ n.names.length ∧ namesG l (n.names.drop x.1) (n.kids.drop x.1) (decide (0 < x.1)) x.2 = namesG l n.names n.kids false ⟨#[]⟩ ∧ x.2.size ≤ 8 * x.1) (x := (0, ⟨#[]⟩)) ?round ?h0 ?hn
  case h0 => exact ⟨Nat.zero_le _, rfl, Nat.le_refl _⟩
  case hn =>
    refine norm_to [(5, 5)] rfl ?_ ?_ <;> simp only [go_sem]
  rintro ⟨i, acc⟩ ⟨hi, hg, hq⟩
  simp only at hi hg hq
  refine vw_seq ?_
  by_cases hc : (i : Int) < n.names.length
  case neg =>
    rw [List.drop_eq_nil_of_le (by omega), List.drop_eq_nil_of_le (by omega), namesG] at hg
    · rw [← hg]
      refine vw_go rfl ?_; simp only [hc,go_sem,setCells,setIn]
      refine vw_cond (t := false) rfl (fun h => nomatch h) (fun _ => ?_)
      refine vw_exit (x_then (x_then (x_block (n_then ?_))))
      refine vw_go rfl ?_; simp only [go_sem,setCells,setIn]
      exact vw_ret (e_ret (ret_of rfl rfl (by simp [RB]) rfl rfl))
    · intro a xs b ys h; cases h
  have hin : i < n.names.length := by omega
  have hik : i < n.kids.length := by omega
  have d1 : (i : Int) < n.kids.length := by omega
  obtain ⟨a, ha⟩ : ∃ u, n.names[i]? = some u := ⟨_, List.getElem?_eq_getElem hin⟩
  obtain ⟨y, hy⟩ : ∃ y, n.kids[i]? = some y := ⟨_, List.getElem?_eq_getElem hik⟩
  have has := hn2 a (List.mem_of_getElem? ha)
  have hyr := hk y (List.mem_of_getElem? hy)
  obtain ⟨z, rfl⟩ : ∃ z : Nat, y = z := ⟨y.toNat, by omega⟩
  obtain ⟨t, ht⟩ : ∃ s, l[z]? = some s := ⟨_, List.getElem?_eq_getElem (by omega)⟩
  rw [drop_of ha, drop_of hy, namesG, kn, Int.toNat_natCast, getD_of ht] at hg
  have rZ := runs_85 t (hsz t (List.mem_of_getElem? ht)) _ rfl
  generalize nodeRead t = zz at rZ hg
  obtain ⟨m, mok⟩ := zz
  simp only at rZ hg
  have d0 : (0:Int) ≤ (i : Int) := by omega
  have z0 : (0:Int) ≤ (z : Int) := by omega
  have z1 : (z : Int) < l.length := by omega
  have z2 : z < l.length := by omega
  have w3 : IntKind.wrap .i64 ((i:Int) + 1) = ((i + 1 : Nat) : Int) := by rw [wrap_i64 (by omega) (by omega)]; rfl
  have bm : List.take m.names.length (m.names.map sRow) = m.names.map sRow := List.take_of_length_le (by simp)
  have bm2 : List.take m.kids.length (m.kids.map nRow) = m.kids.map nRow := List.take_of_length_le (by simp)
  have s1 : (⟨#[32]⟩ : ByteArray).size = 1 := rfl
  have s2 : (⟨#[47]⟩ : ByteArray).size = 1 := rfl
  have t1 : Array.size #[(32 : UInt8)] = 1 := rfl
  have t2 : Array.size #[(47 : UInt8)] = 1 := rfl
  refine vw_go rfl ?_; simp only [hc,go_sem,setCells,setIn]
  refine vw_cond (t := true) rfl (fun _ => ?_) (fun h => nomatch h)
  refine vw_skip (n_then ?_)
  refine vw_seq ?_
  refine vw_block ?_
  refine vw_seq ?_
  by_cases hp : (0:Int) < i
  case neg =>
    have hp' : decide (0 < i) = false := decide_eq_false (by omega)
    simp only [hp',Bool.false_eq_true,if_false] at hg
    have za : acc.size + a.size < 2 ^ 60 := by omega
    have zb : acc.size + a.size + Array.size #[(47 : UInt8)] < 2 ^ 60 := by omega
    have hnx : decide (0 < i + 1) = true := decide_eq_true (by omega)
    rw [← hnx] at hg
    refine vw_go rfl ?_; simp only [hp,go_sem,setCells,setIn]
    refine vw_cond (t := false) rfl (fun h => nomatch h) (fun _ => ?_)
    refine vw_skip (n_then ?_)
    refine vw_go rfl ?_; simp only [d0,hc,hin,Int.toNat_natCast,getD_map_of ha,sRow,bn,bk,za,go_sem,setCells,setIn]
    refine vw_go rfl ?_; simp only [d0,d1,hik,z0,z1,z2,Int.toNat_natCast,getD_map_of hy,nRow,getD_map_of ht,sRow,bn,bk,go_sem,setCells,setIn]
    refine ⟨_, _, call_rx [0] Tryz.func85 (rZ) rfl rfl rfl rfl rfl rfl rfl (by simp [lendAll,lendC,seek,fresh,nav,rcells,RT.cells,VV.cells,tabE_cons,tabS_cons,ev,take_map_len,sRow_r1,sRow_comp,sRow_clean,nRow_r1,nRow_comp,nRow_clean]) rfl (by simp [rcells,RT.cells,CT.clean,T.clean,sRow_r1,sRow_comp,sRow_clean,nRow_r1,nRow_comp,nRow_clean]) rfl rfl, ?_⟩
    simp only [runH,runX,bm,bm2,go_sem,setCells,setIn]
    refine vw_go rfl ?_; simp only [go_sem,setCells,setIn]
    cases hd : m.dir
    · simp only [hd,Bool.false_eq_true,if_false] at hg
      refine vw_cond (t := false) rfl (fun h => nomatch h) (fun _ => ?_)
      refine vw_skip (n_block (n_then ?_))
      refine vw_last rfl ?_; simp only [w3,go_sem,setCells,setIn]
      refine (n_then ?_)
      refine ⟨(i + 1, acc ++ a), by simp only; omega, ⟨by simp only; omega, hg, by simp only [add_size]; omega⟩, ?_⟩
      refine norm_to [(5, 5)] rfl ?_ ?_ <;> simp only [go_sem]
    simp only [hd,if_true] at hg
    refine vw_cond (t := true) rfl (fun _ => ?_) (fun h => nomatch h)
    refine vw_last rfl ?_; simp only [zb,go_sem,setCells,setIn]
    refine (n_block (n_then ?_))
    refine vw_last rfl ?_; simp only [w3,go_sem,setCells,setIn]
    refine (n_then ?_)
    refine ⟨(i + 1, acc ++ a ++ ⟨#[47]⟩), by simp only; omega, ⟨by simp only; omega, hg, by simp only [add_size]; omega⟩, ?_⟩
    refine norm_to [(5, 5)] rfl ?_ ?_ <;> simp only [go_sem]
  have hp' : decide (0 < i) = true := decide_eq_true (by omega)
  simp only [hp',if_true] at hg
  have zz0 : acc.size + Array.size #[(32 : UInt8)] < 2 ^ 60 := by omega
  have za : acc.size + Array.size #[(32 : UInt8)] + a.size < 2 ^ 60 := by omega
  have zb : acc.size + Array.size #[(32 : UInt8)] + a.size + Array.size #[(47 : UInt8)] < 2 ^ 60 := by omega
  have hnx : decide (0 < i + 1) = true := decide_eq_true (by omega)
  rw [← hnx] at hg
  refine vw_go rfl ?_; simp only [hp,go_sem,setCells,setIn]
  refine vw_cond (t := true) rfl (fun _ => ?_) (fun h => nomatch h)
  refine vw_last rfl ?_; simp only [zz0,go_sem,setCells,setIn]
  refine (n_then ?_)
  refine vw_go rfl ?_; simp only [d0,hc,hin,Int.toNat_natCast,getD_map_of ha,sRow,bn,bk,za,go_sem,setCells,setIn]
  refine vw_go rfl ?_; simp only [d0,d1,hik,z0,z1,z2,Int.toNat_natCast,getD_map_of hy,nRow,getD_map_of ht,sRow,bn,bk,go_sem,setCells,setIn]
  refine ⟨_, _, call_rx [0] Tryz.func85 (rZ) rfl rfl rfl rfl rfl rfl rfl (by simp [lendAll,lendC,seek,fresh,nav,rcells,RT.cells,VV.cells,tabE_cons,tabS_cons,ev,take_map_len,sRow_r1,sRow_comp,sRow_clean,nRow_r1,nRow_comp,nRow_clean]) rfl (by simp [rcells,RT.cells,CT.clean,T.clean,sRow_r1,sRow_comp,sRow_clean,nRow_r1,nRow_comp,nRow_clean]) rfl rfl, ?_⟩
  simp only [runH,runX,bm,bm2,go_sem,setCells,setIn]
  refine vw_go rfl ?_; simp only [go_sem,setCells,setIn]
  cases hd : m.dir
  · simp only [hd,Bool.false_eq_true,if_false] at hg
    refine vw_cond (t := false) rfl (fun h => nomatch h) (fun _ => ?_)
    refine vw_skip (n_block (n_then ?_))
    refine vw_last rfl ?_; simp only [w3,go_sem,setCells,setIn]
    refine (n_then ?_)
    refine ⟨(i + 1, (acc ++ ⟨#[32]⟩) ++ a), by simp only; omega, ⟨by simp only; omega, hg, by simp only [add_size]; omega⟩, ?_⟩
    refine norm_to [(5, 5)] rfl ?_ ?_ <;> simp only [go_sem]
  simp only [hd,if_true] at hg
  refine vw_cond (t := true) rfl (fun _ => ?_) (fun h => nomatch h)
  refine vw_last rfl ?_; simp only [zb,go_sem,setCells,setIn]
  refine (n_block (n_then ?_))
  refine vw_last rfl ?_; simp only [w3,go_sem,setCells,setIn]
  refine (n_then ?_)
  refine ⟨(i + 1, (acc ++ ⟨#[32]⟩) ++ a ++ ⟨#[47]⟩), by simp only; omega, ⟨by simp only; omega, hg, by simp only [add_size]; omega⟩, ?_⟩
  refine norm_to [(5, 5)] rfl ?_ ?_ <;> simp only [go_sem]
/-! ### depth -/
def highK (g : Nat → Int) : List Int → Int → Int
  | [], o => o
  | y :: ys, o => highK g ys (if 1 + g y.toNat < o then o else 1 + g y.toNat)
def highG (l : List ByteArray) : Nat → Nat → Int
  | 0, _ => 0
  | f + 1, k => highK (highG l f) (kn l k).kids 0
theorem highK_in {g : Nat → Int} {m : Int} (hg : ∀ k, 0 ≤ g k ∧ g k ≤ m) : ∀ (ys : List Int) (o : Int), 0 ≤ o → o ≤ m + 1 → 0 ≤ highK g ys o ∧ highK g ys o ≤ m + 1
  | [], o, h0, h1 => ⟨h0, h1⟩
  | y :: ys, o, h0, h1 => by
    have := hg y.toNat
    unfold highK
    refine highK_in hg ys _ ?_ ?_ <;> split <;> omega
theorem highG_in (l : List ByteArray) : ∀ (f k : Nat), 0 ≤ highG l f k ∧ highG l f k ≤ f
  | 0, k => ⟨Int.le_refl _, Int.le_refl _⟩
  | f + 1, k => by
    have := highK_in (m := f) (highG_in l f) (kn l k).kids 0 (Int.le_refl _) (by omega)
    rw [highG]
    omega
set_option maxHeartbeats 1000000 in
theorem runs_high0 (l : List ByteArray) (hl : l.length = 12) (hsz : ∀ s ∈ l, s.size ≤ 2 ^ 20) (f k : Nat) (hk : k < 12) (hd : deepOk l f k) (hf : f ≤ 100)
    (ih : ∀ g, f = g + 1 → ∀ (k : Nat), k < 12 → deepOk l g k → Runs Tryz.prog 154 [.one (.v (.list false 1 (l.map sRow))), .one (.v (.int .i64 k))] [.one (.v (.int .i64 (highG l g k)))] []) :
    Runs Tryz.prog 154 [.one (.v (.list false 1 (l.map sRow))), .one (.v (.int .i64 k))] [.one (.v (.int .i64 (highG l f k)))] [] := by
  refine runs_tab (tab := [(0, .c (.list false 1 (l.map sRow))), (1, .c (.int .i64 k))]) (rts := []) (n := 35) (k := 2) Tryz.func154 rfl rfl (by simp) rfl (fun t => ?_) rfl ?_
  · rcases t with _ | _ | t <;> rfl
  obtain ⟨g, rfl, hok, hkd⟩ := deep_step hd
  have hnk := nodeOk_kids (nodeRead_ok hok)
  have hfew := nodeRead_few (l.getD k ⟨#[]⟩)
  have hG : highG l (g + 1) k = highK (highG l g) (nodeRead (l.getD k ⟨#[]⟩)).1.kids 0 := by rw [highG, kn, Int.toNat_natCast]
  rw [hG]
  clear hG hd
  obtain ⟨s, hs⟩ : ∃ s, l[k]? = some s := ⟨_, List.getElem?_eq_getElem (by omega)⟩
  have rA := runs_85 s (hsz s (List.mem_of_getElem? hs)) _ rfl
  rw [getD_of hs] at hok hkd hnk hfew ⊢
  generalize nodeRead s = r at rA hok hkd hnk hfew ⊢
  obtain ⟨n, ok⟩ := r
  simp only at rA hok hkd hnk hfew ⊢
  have c0 : (0:Int) ≤ (k : Int) := by omega
  have c1 : (k : Int) < (l.length : Int) := by omega
  have c3 : k < l.length := by omega
  have bn : List.take n.names.length (n.names.map sRow) = n.names.map sRow := List.take_of_length_le (by simp)
  have bk : List.take n.kids.length (n.kids.map nRow) = n.kids.map nRow := List.take_of_length_le (by simp)
  refine vw_go rfl ?_; simp only [go_sem,setCells,setIn]
  refine vw_go rfl ?_; simp only [c0,c1,c3,Int.toNat_natCast,getD_map_of hs,sRow,go_sem,setCells,setIn]
  refine ⟨_, _, call_rx [0] Tryz.func85 (rA) rfl rfl rfl rfl rfl rfl rfl (by simp [lendAll,lendC,seek,fresh,nav,rcells,RT.cells,VV.cells,tabE_cons,tabS_cons,ev,take_map_len,sRow_r1,sRow_comp,sRow_clean,nRow_r1,nRow_comp,nRow_clean]) rfl (by simp [rcells,RT.cells,CT.clean,T.clean,sRow_r1,sRow_comp,sRow_clean,nRow_r1,nRow_comp,nRow_clean]) rfl rfl, ?_⟩
  simp only [runH,runX,bn,bk,go_sem,setCells,setIn]
  refine vw_go rfl ?_; simp only [go_sem,setCells,setIn]
  refine vw_seq ?_
  refine vw_go rfl ?_; simp only [go_sem,setCells,setIn]
  refine vw_block ?_
  refine vw_loop_tab (α := Nat × Int) (fun x => n.kids.length - x.1) (fun x => ⟨tabE [(0, .c (.list false 1 (l.map sRow))), (5, .ptr 3 [] 0 0 0), (7, .c (.int .i64 x.2)), (8, .c (.int .i64 x.1))],
      tabS [(3, some ⟨true, 4, [[.bool n.dir, .list true 1 (n.names.map sRow), .list true 1 (n.kids.map nRow), .str n.data]], [[(0, 1)], [(0, 2)]]⟩)], 5⟩)
    (fun x => x.1 ≤ n.kids.length ∧ highK (highG l g) (n.kids.drop x.1) x.2 = highK (highG l g) n.kids 0) (x := (0, 0)) ?round ?h0 ?hn
  case h0 => exact ⟨Nat.zero_le _, rfl⟩
  case hn =>
    refine norm_to [(73730, 3)] rfl ?_ ?_ <;> simp only [go_sem]
  rintro ⟨i, q⟩ ⟨hi, hg⟩
  simp only at hi hg
  refine vw_seq ?_
  by_cases hc : (i : Int) < n.kids.length
  case neg =>
    rw [List.drop_eq_nil_of_le (by omega), highK] at hg
    rw [← hg]
    refine vw_go rfl ?_; simp only [hc,go_sem,setCells,setIn]
    refine vw_cond (t := false) rfl (fun h => nomatch h) (fun _ => ?_)
    refine vw_exit (x_then (x_then (x_block (n_then ?_))))
    refine vw_go rfl ?_; simp only [go_sem,setCells,setIn]
    exact vw_ret (e_ret (ret_of rfl rfl (by simp [RB]) rfl rfl))
  have hik : i < n.kids.length := by omega
  obtain ⟨y, hy⟩ : ∃ y, n.kids[i]? = some y := ⟨_, List.getElem?_eq_getElem hik⟩
  have hyr := hnk.1 y (List.mem_of_getElem? hy)
  have hyd := hkd y (List.mem_of_getElem? hy)
  obtain ⟨z, rfl⟩ : ∃ z : Nat, y = z := ⟨y.toNat, by omega⟩
  rw [Int.toNat_natCast] at hyd
  rw [drop_of hy, highK, Int.toNat_natCast] at hg
  have rI := ih g rfl z (by omega) hyd
  have hr := highG_in l g z
  generalize highG l g z = v at rI hg hr
  have d0 : (0:Int) ≤ (i : Int) := by omega
  have w3 : IntKind.wrap .i64 ((i:Int) + 1) = ((i + 1 : Nat) : Int) := by rw [wrap_i64 (by omega) (by omega)]; rfl
  have w4 : IntKind.wrap .i64 (1 + v) = 1 + v := wrap_i64 (by omega) (by omega)
  have rM := runs_78 q (1 + v)
  generalize (if 1 + v < q then q else 1 + v) = q' at rM hg
  refine vw_go rfl ?_; simp only [hc,go_sem,setCells,setIn]
  refine vw_cond (t := true) rfl (fun _ => ?_) (fun h => nomatch h)
  refine vw_skip (n_then ?_)
  refine vw_seq ?_
  refine vw_block ?_
  refine vw_last rfl ?_; simp only [d0,hc,hik,Int.toNat_natCast,getD_map_of hy,nRow,go_sem,setCells,setIn]
  refine ⟨_, _, call_rx [0, 0] Tryz.func154 (rI) rfl rfl rfl rfl rfl rfl rfl (by simp [lendAll,lendC,seek,fresh,nav,rcells,RT.cells,VV.cells,tabE_cons,tabS_cons,ev,take_map_len,sRow_r1,sRow_comp,sRow_clean,nRow_r1,nRow_comp,nRow_clean]) rfl (by simp [rcells,RT.cells,CT.clean,T.clean,sRow_r1,sRow_comp,sRow_clean,nRow_r1,nRow_comp,nRow_clean]) rfl rfl, ?_⟩
  simp only [runH,runX,w4,go_sem,setCells,setIn]
  refine ⟨_, _, call_rd [0, 0] Tryz.func78 (rM) rfl rfl rfl rfl rfl rfl rfl rfl rfl rfl rfl rfl rfl, ?_⟩
  simp only [runH,runX,go_sem,setCells,setIn]
  refine (n_block (n_then ?_))
  refine vw_last rfl ?_; simp only [w3,go_sem,setCells,setIn]
  refine (n_then ?_)
  refine ⟨(i + 1, q'), by simp only; omega, ⟨by simp only; omega, hg⟩, ?_⟩
  refine norm_to [(3, 3)] rfl ?_ ?_ <;> simp only [go_sem]
theorem runs_154 (l : List ByteArray) (hl : l.length = 12) (hsz : ∀ s ∈ l, s.size ≤ 2 ^ 20) : ∀ (f k : Nat), k < 12 → deepOk l f k → f ≤ 100 →
    Runs Tryz.prog 154 [.one (.v (.list false 1 (l.map sRow))), .one (.v (.int .i64 k))] [.one (.v (.int .i64 (highG l f k)))] []
  | 0, k, hk, hd, hf => by obtain ⟨m, h⟩ := hd; cases h
  | f + 1, k, hk, hd, hf => runs_high0 l hl hsz (f + 1) k hk hd hf (fun g hg k hk hd => by
      obtain rfl : f = g := by omega
      exact runs_154 l hl hsz f k hk hd (by omega))
end Go.Proofs.YtkijdbljnefeaaaGreatDoor
namespace Go.Proofs.YtkijdbljnefeaaaGreatDoor
open Go.VM
set_option maxRecDepth 100000
attribute [local congr] vw_congr runV_congr runH_congr runW_congr runX_congr stuckV_congr stuckX_congr
def doneL : List ByteArray → List PutV → List ByteArray
  | l, [] => l
  | l, p :: ps => doneL (if inB p.sector 0 ((l.length : Int) - 1) then l.set p.sector.toNat p.data else l) ps
theorem doneL_len : ∀ (ps : List PutV) (l : List ByteArray), (doneL l ps).length = l.length
  | [], l => rfl
  | p :: ps, l => by
    simp only [doneL]
    rw [doneL_len ps]
    split <;> simp
theorem runs_88 (l : List ByteArray) (ps : List PutV) (hl : l.length ≤ 2 ^ 20) (hp : ps.length < 2 ^ 63) :
    Runs Tryz.prog 88 [.one (.v (.list false 1 (l.map sRow))), .one (.v (.list false 2 (ps.map putRow)))] [.one (.v (.list true 1 ((doneL l ps).map sRow)))] [] := by
  refine runs_tab (tab := [(0, .c (.list false 1 (l.map sRow))), (1, .c (.list false 2 (ps.map putRow)))]) (rts := []) (n := 38) (k := 2) Tryz.func88 rfl rfl (by simp) rfl (fun t => ?_) rfl ?_
  · rcases t with _ | _ | t <;> rfl
  have B : ¬ (l.length + 1) * (16 + 1) > bigRow := by simp only [bigRow]; omega
  refine vw_go rfl ?_; simp only [go_sem,setCells,setIn]
  refine vw_go rfl ?_; simp only [List.replicate_zero,List.flatten_nil,List.range_zero,sRow_noOwn,B,gt_iff_lt,go_sem,setCells,setIn]
  refine vw_seq ?_
  refine vw_go rfl ?_; simp only [go_sem,setCells,setIn]
  refine vw_block ?_
  refine vw_loop_tab (α := Nat × List ByteArray) (fun x => ps.length - x.1) (fun x => ⟨tabE [(1, .c (.list false 2 (ps.map putRow))), (5, .al 2 [] 0 1 0 l.length), (6, .c (.int .i64 x.1))], tabS [(2, some ⟨false, 1, x.2.map sRow, []⟩)], 3⟩)
    (fun x => x.1 ≤ ps.length ∧ x.2.length = l.length ∧ doneL x.2 (ps.drop x.1) = doneL l ps) (x := (0, l)) ?round ?h0 ?hn
  case h0 => exact ⟨Nat.zero_le _, rfl, rfl⟩
  case hn => (refine norm_to [(67586, 2)] rfl ?_ ?_ <;> simp only [go_sem])
  rintro ⟨i, cur⟩ ⟨hi, hcl, hm⟩
  simp only at hi hcl hm
  refine vw_seq ?_
  refine vw_go rfl ?_; simp only [go_sem,setCells,setIn]
  refine vw_cond (t := decide ((i : Int) < ps.length)) rfl (fun h => ?_) (fun h => ?_)
  · refine vw_skip (n_then ?_)
    rcases get_or ps i with ⟨p, hx, hlt⟩ | ⟨_, hge⟩
    case inr => simp only [decide_eq_true_eq] at h; omega
    have c1 : (0:Int) ≤ (i:Int) := by omega
    have c2 : (i:Int) < (ps.length : Int) := by omega
    have w3 : IntKind.wrap .i64 ((l.length:Int) - 1) = (l.length:Int) - 1 := wrap_i64 (by omega) (by omega)
    have w2 : IntKind.wrap .i64 ((i:Int) + 1) = ((i + 1 : Nat) : Int) := by rw [wrap_i64 (by omega) (by omega)]; rfl
    rw [drop_of hx] at hm
    simp only [doneL,hcl] at hm
    refine vw_seq ?_
    refine vw_block ?_
    refine vw_go rfl ?_; simp only [c1,c2,Int.toNat_natCast,getD_map_of hx,putRow,w3,go_sem,setCells,setIn]
    refine ⟨_, _, call_rd [0, 0, 0] Tryz.func26 (runs_26 p.sector 0 ((l.length:Int) - 1)) rfl rfl rfl rfl rfl rfl rfl rfl rfl rfl rfl rfl rfl, ?_⟩
    simp only [runH,runX,go_sem,setCells,setIn]
    refine vw_cond (t := inB p.sector 0 ((l.length:Int) - 1)) rfl (fun h => ?_) (fun h => ?_)
    · have hin := h
      simp only [inB,Bool.and_eq_true,decide_eq_true_eq] at hin
      obtain ⟨p1, p2⟩ := hin
      have p3 : p.sector < (l.length : Int) := by omega
      have q1 : p.sector.toNat < cur.length := by omega
      have q2 : (cur.map sRow).getD p.sector.toNat [] = [.str (cur[p.sector.toNat])] := by
        rw [List.getD_eq_getElem?_getD, List.getElem?_map, List.getElem?_eq_getElem q1]; rfl
      have q3 : (cur.map sRow).set p.sector.toNat [.str p.data] = (cur.set p.sector.toNat p.data).map sRow := by
        rw [List.map_set]; rfl
      refine vw_draw_last mixed rfl rfl ?_; simp only [c1,c2,Int.toNat_natCast,getD_map_of hx,putRow,p1,p3,q1,q2,q3,go_sem,setCells,setIn]
      refine ⟨by unfold allOk; kernel_rfl, n_block (n_then ?_)⟩
      refine vw_last rfl ?_; simp only [w2,go_sem,setCells,setIn]
      refine (n_then ?_)
      simp only [h,if_true] at hm
      refine ⟨(i + 1, cur.set p.sector.toNat p.data), by simp only; omega, ⟨hlt, by simp [hcl], hm⟩, ?_⟩
      refine norm_to [(2, 2)] rfl ?_ ?_ <;> simp only [go_sem]
    · refine vw_skip (n_block (n_then ?_))
      refine vw_last rfl ?_; simp only [w2,go_sem,setCells,setIn]
      refine (n_then ?_)
      simp only [h,Bool.false_eq_true,if_false] at hm
      refine ⟨(i + 1, cur), by simp only; omega, ⟨hlt, hcl, hm⟩, ?_⟩
      refine norm_to [(2, 2)] rfl ?_ ?_ <;> simp only [go_sem]
  · refine vw_exit (x_then (x_then (x_block (n_then ?_))))
    refine vw_go rfl ?_; simp only [go_sem,setCells,setIn]
    simp only [decide_eq_false_iff_not] at h
    have : i = ps.length := by omega
    subst this
    simp only [List.drop_length,doneL] at hm
    rw [← hm]
    exact vw_ret (e_ret (ret_of rfl rfl (by simp [RB]) rfl (take_whole (R := ⟨false, 1, cur.map sRow, []⟩) rfl rfl rfl (by simp [hcl]))))
end Go.Proofs.YtkijdbljnefeaaaGreatDoor
