/- Lists of items, the plain law of paths that are moved: a path's names where it is cut; how many bytes 47 a path has. Plain of the reference: what is asked of a list. Plain of the reference: folders, kids, what is made and dropped. The order of texts; a text put into a list that ascends. -/
import Derived.Test.YtoenfbbadfcfpaaGreatDoorPFItem2
import Derived.Test.YtoenfbbadfcfpaaGreatDoorPFItemsOk
import Derived.Test.YtoenfbbadfcfpaaGreatDoorPFGoer
import Derived.Test.YtoenfbbadfcfpaaGreatDoorPFItem
import Derived.Test.YtoenfbbadfcfpaaGreatDoorPFDraw
set_option linter.unusedSimpArgs false
set_option linter.unusedVariables false
namespace Go.Proofs.YtoenfbbadfcfpaaGreatDoor
open Go.VM Go
theorem tail_getD (s : ByteArray) (k i : Nat) : (s.extract k s.size).data.toList.getD i 0 = s.data.toList.getD (k + i) 0 := by
  rw [cut_bytes, List.take_of_length_le (by rw [bs_len]; omega), List.getD_eq_getElem?_getD, List.getD_eq_getElem?_getD, List.getElem?_drop]
theorem tail_cut (s : ByteArray) (k i j : Nat) : (s.extract k s.size).extract i j = s.extract (k + i) (k + j) := by
  refine ba_eq ?_
  rw [cut_bytes, cut_bytes, cut_bytes, List.take_of_length_le (l := s.data.toList) (by rw [bs_len]; omega)]
  rw [List.drop_take, List.drop_take, List.drop_drop]
  congr 1
  omega
theorem pcs_shift (s : ByteArray) (k : Nat) : ∀ (n fr i : Nat), pcs 47 s n (k + fr) (k + i) = pcs 47 (s.extract k s.size) n fr i
  | 0, fr, i => by rw [pcs, pcs, tail_cut]
  | n + 1, fr, i => by
    rw [pcs, pcs, tail_getD, tail_cut]
    have h1 := pcs_shift s k n (i + 1) (i + 1)
    have h2 := pcs_shift s k n fr (i + 1)
    rw [← Nat.add_assoc] at h1 h2
    rw [h1, h2]
theorem names_cut {s : ByteArray} {k : Nat} (hk : k < s.size) (h47 : s.data.toList.getD k 0 = 47) : names s = names (s.extract 0 k) ++ names (s.extract (k + 1) s.size) := by
  have e1 : (s.extract 0 k).size = k := by rw [extract_size (by omega), Nat.sub_zero]
  have e2 : (s.extract (k + 1) s.size).size = s.size - (k + 1) := extract_size (Nat.le_refl _)
  have e := pcs_cut s k hk h47 k 0 0 (by omega)
  rw [Nat.sub_zero] at e
  have e3 := pcs_shift s (k + 1) (s.size - (k + 1)) 0 0
  rw [Nat.add_zero] at e3
  unfold names
  rw [e, e1, e2, e3]
theorem names_glue (a r : ByteArray) : names (a ++ ⟨#[47]⟩ ++ r) = names a ++ names r := by
  have hs : (a ++ ⟨#[47]⟩ ++ r).size = a.size + 1 + r.size := by rw [add_size, add_size]; rfl
  have hb : (a ++ ⟨#[47]⟩ ++ r).data.toList = a.data.toList ++ (47 :: r.data.toList) := by rw [add_bytes, add_bytes, List.append_assoc]; rfl
  have h47 : (a ++ ⟨#[47]⟩ ++ r).data.toList.getD a.size 0 = 47 := by
    rw [hb, List.getD_eq_getElem?_getD, List.getElem?_append_right (by rw [bs_len]; omega), bs_len, Nat.sub_self]; rfl
  rw [names_cut (k := a.size) (by omega) h47]
  congr 2
  · refine ba_eq ?_
    rw [head_bytes, hb, ← bs_len a, List.take_left]
  · refine ba_eq ?_
    rw [cut_bytes, List.take_of_length_le (by rw [bs_len]; omega), hb]
    rw [show a.size + 1 = a.data.toList.length + 1 from by rw [bs_len], List.drop_append]
    simp
/-- A path below another one: what stands behind it. -/
theorem under_cut {p q : ByteArray} (h : underB p q = true) (hq : q ≠ ⟨#[]⟩) : pathOk p = true ∧ pathOk q = true ∧ (p = q ∨ ∃ r, p = q ++ ⟨#[47]⟩ ++ r ∧ p.extract q.size p.size = ⟨#[47]⟩ ++ r) := by
  unfold underB at h
  simp only [Bool.and_eq_true, Bool.or_eq_true, decide_eq_true_eq] at h
  obtain ⟨h1, h2, h3⟩ := h
  refine ⟨h1, h2, ?_⟩
  rcases h3 with h3 | h3 | h3
  · exact absurd h3 hq
  · exact .inl h3
  · refine .inr ⟨p.extract (q.size + 1) p.size, ?_⟩
    rw [pre_iff] at h3
    simp only [Bool.and_eq_true, decide_eq_true_eq] at h3
    obtain ⟨h3, h4⟩ := h3
    have e1 : p = p.extract 0 (q.size + 1) ++ p.extract (q.size + 1) p.size := by
      refine ba_eq ?_
      rw [add_bytes, head_bytes, cut_bytes, List.take_of_length_le (l := p.data.toList) (i := p.size) (by rw [bs_len]; omega), List.take_append_drop]
    constructor
    · rw [← h4]; exact e1
    · have e2 : p.data.toList = q.data.toList ++ (47 :: (p.extract (q.size + 1) p.size).data.toList) := by
        have := congrArg (fun s : ByteArray => s.data.toList) e1
        simp only [add_bytes] at this
        rw [h4, add_bytes, List.append_assoc] at this
        exact this
      refine ba_eq ?_
      rw [cut_bytes, List.take_of_length_le (by rw [bs_len]; omega), e2, ← bs_len q, List.drop_left, add_bytes]
      rfl
theorem pathOk_names {p : ByteArray} (h0 : p ≠ ⟨#[]⟩) : pathOk p = ((names p).all nameOk && decide (((names p).length : Int) ≤ 4)) := by
  unfold pathOk namesZ
  rw [if_neg h0]
/-- What is moved: the new path may stand where it has few bytes 47. -/
theorem moved_ok {p q t : ByteArray} (h : underB p q = true) (hq : q ≠ ⟨#[]⟩) (ht : pathOk t = true) (ht0 : t ≠ ⟨#[]⟩) :
    t ++ p.extract q.size p.size ≠ ⟨#[]⟩ ∧ pathOk (t ++ p.extract q.size p.size) = decide (((t ++ p.extract q.size p.size).data.toList.count 47 : Int) < 4) := by
  obtain ⟨h1, h2, h3⟩ := under_cut h hq
  have ht1 := ht
  rw [pathOk_names ht0, Bool.and_eq_true, decide_eq_true_eq] at ht1
  have hsz : 0 < t.size := by
    rcases Nat.eq_zero_or_pos t.size with e | e
    · exact absurd (size0.2 e) ht0
    · exact e
  rcases h3 with rfl | ⟨r, rfl, e2⟩
  · have e : p.extract p.size p.size = ⟨#[]⟩ := size0.2 (by rw [ByteArray.size_extract]; omega)
    rw [e, app_nil]
    refine ⟨ht0, ?_⟩
    rw [ht]
    have := names_len t
    refine (decide_eq_true ?_).symm
    omega
  · rw [e2, ← app_assoc]
    have hne : t ++ ⟨#[47]⟩ ++ r ≠ ⟨#[]⟩ := fun e => by
      have := congrArg ByteArray.size e
      rw [add_size, add_size] at this
      have h0 : (⟨#[]⟩ : ByteArray).size = 0 := rfl
      omega
    have hpne : q ++ ⟨#[47]⟩ ++ r ≠ ⟨#[]⟩ := fun e => by
      have := congrArg ByteArray.size e
      rw [add_size, add_size] at this
      have h0 : (⟨#[]⟩ : ByteArray).size = 0 := rfl
      have h1 : (⟨#[47]⟩ : ByteArray).size = 1 := rfl
      omega
    refine ⟨hne, ?_⟩
    rw [pathOk_names hpne, names_glue, Bool.and_eq_true, List.all_append, Bool.and_eq_true] at h1
    have hl := names_len (t ++ ⟨#[47]⟩ ++ r)
    have hok : (names (t ++ ⟨#[47]⟩ ++ r)).all nameOk = true := by
      rw [names_glue, List.all_append, ht1.1, h1.1.2]; rfl
    rw [pathOk_names hne, hok, Bool.true_and, hl]
    by_cases hc : ((t ++ ⟨#[47]⟩ ++ r).data.toList.count 47 : Int) < 4
    · rw [decide_eq_true hc]; exact decide_eq_true (by omega)
    · rw [decide_eq_false hc]; exact decide_eq_false (by omega)
theorem unmoved_ok {p : ByteArray} (h : pathOk p = true) (h0 : p ≠ ⟨#[]⟩) : (p.data.toList.count 47 : Int) < 4 := by
  rw [pathOk_names h0, Bool.and_eq_true, decide_eq_true_eq] at h
  have := names_len p
  omega
/-! ### lists that are right -/
theorem okFrom_mem {l : List It3} : ∀ {r : List It3} {i : Nat}, okFrom l r i = true → ∀ (j : Nat) (x : It3), r[j]? = some x → itemBad l (i + j) x = false
  | [], i, h, j, x, hx => by simp at hx
  | y :: r, i, h, j, x, hx => by
    rw [okFrom, Bool.and_eq_true] at h
    cases j with
    | zero =>
      simp only [List.getElem?_cons_zero, Option.some.injEq] at hx
      subst hx
      simpa using h.1
    | succ j =>
      have := okFrom_mem h.2 j x (by simpa using hx)
      rwa [show i + 1 + j = i + (j + 1) from by omega] at this
theorem itemsOk_at {l : List It3} (h : itemsOk l = true) : l.length ≤ 11 ∧ ∀ (j : Nat) (x : It3), l[j]? = some x → (splitF x.1).2.2 = true ∧ x.2.2.size ≤ 60 ∧ (x.2.1 = true → x.2.2 = ⟨#[]⟩) ∧ idxOf (hasPath x.1) l 0 = (j : Int) ∧ isFold l (splitF x.1).1 = true := by
  unfold itemsOk at h
  rw [Bool.and_eq_true, decide_eq_true_eq] at h
  refine ⟨by omega, fun j x hx => ?_⟩
  have hb := okFrom_mem h.1 j x hx
  unfold itemBad at hb
  simp only [Bool.or_eq_false_iff, Bool.and_eq_false_imp, Bool.not_eq_false', decide_eq_false_iff_not, decide_eq_true_eq, Nat.zero_add] at hb
  obtain ⟨h1, h2, h3, h4, h5⟩ := hb
  refine ⟨h1, by omega, fun hd => h3 hd, h4, h5⟩
theorem splitF_ok {s : ByteArray} (h : (splitF s).2.2 = true) : pathOk s = true ∧ s ≠ ⟨#[]⟩ := by
  refine ⟨(split_names h).1, fun e => ?_⟩
  rw [splitF_nil e] at h; cases h
end Go.Proofs.YtoenfbbadfcfpaaGreatDoor
namespace Go.Proofs.YtoenfbbadfcfpaaGreatDoor
open Go.VM Go
set_option maxRecDepth 100000
attribute [local congr] vw_congr runV_congr runH_congr runW_congr runX_congr stuckV_congr stuckX_congr
def findF (l : List It3) (q : ByteArray) : Int := idxOf (hasPath q) l 0
def foldF (l : List It3) (q : ByteArray) : Int := if q = ⟨#[]⟩ then 0 else if findF l q < 0 then 2 else if dirAt l (findF l q).toNat = true then 0 else 4
def kidsB (l : List It3) (q : ByteArray) : Bool := l.any fun x => !decide (x.1 = q) && underB x.1 q
def makeL (l : List It3) (o : OpV) : List It3 × Int :=
  if o.path = ⟨#[]⟩ ∨ 0 ≤ findF l o.path then (l, 3)
  else if ¬ foldF l (splitF o.path).1 = 0 then (l, foldF l (splitF o.path).1)
  else if l.length = 11 then (l, 5)
  else (l ++ [(o.path, decide (o.kind = 2), ⟨#[]⟩)], 0)
def dropL (l : List It3) (o : OpV) : List It3 × Int :=
  if o.path = ⟨#[]⟩ ∨ kidsB l o.path = true then (l, 6) else (l.filter (fun x => !decide (x.1 = o.path)), 0)
def movedP (o : OpV) (p : ByteArray) : ByteArray := if underB p o.path = true then o.to ++ p.extract o.path.size p.size else p
def moveG (l : List It3) (o : OpV) : List It3 → List It3 → List It3 × Int
  | [], acc => (acc, 0)
  | x :: r, acc => if pathOk (movedP o x.1) = true then moveG l o r (acc ++ [(movedP o x.1, x.2)]) else (l, 5)
def moveL (l : List It3) (o : OpV) : List It3 × Int :=
  if o.path = ⟨#[]⟩ ∨ underB o.to o.path = true then (l, 6)
  else if o.to = ⟨#[]⟩ ∨ 0 ≤ findF l o.to then (l, 3)
  else if ¬ foldF l (splitF o.to).1 = 0 then (l, foldF l (splitF o.to).1)
  else moveG l o l []
/-- The folder's names, put one behind the other, each with its item's number. -/
def nodeG (p : ByteArray) : List It3 → Nat → NodeV → NodeV
  | [], _, n => n
  | x :: r, i, n => nodeG p r (i + 1) (if (splitF x.1).1 = p then kidPutF n (splitF x.1).2.1 (i : Int) else n)
def textG (l : List It3) : List ByteArray → List Int → Bool → ByteArray → ByteArray
  | a :: xs, b :: ys, more, acc => textG l xs ys true (if dirAt l b.toNat = true then (if more = true then acc ++ ⟨#[32]⟩ else acc) ++ a ++ ⟨#[47]⟩ else (if more = true then acc ++ ⟨#[32]⟩ else acc) ++ a)
  | _, _, _, acc => acc
def listL (l : List It3) (p : ByteArray) : ByteArray := textG l (nodeG p l 0 ⟨true, [], [], ⟨#[]⟩⟩).names (nodeG p l 0 ⟨true, [], [], ⟨#[]⟩⟩).kids false ⟨#[]⟩
def dataAt (l : List It3) (i : Nat) : ByteArray := match l[i]? with | some x => x.2.2 | none => ⟨#[]⟩
def putAtL (l : List It3) (i : Nat) (s : ByteArray) : List It3 := match l[i]? with | some x => l.set i (x.1, x.2.1, s) | none => l
abbrev Plain3 := List It3 × Int × ByteArray
def doL (l : List It3) (o : OpV) : Plain3 :=
  if foldF l o.path = 2 then (l, 2, ⟨#[]⟩)
  else if o.kind = 5 then ((dropL l o).1, (dropL l o).2, ⟨#[]⟩)
  else if o.kind = 6 then ((moveL l o).1, (moveL l o).2, ⟨#[]⟩)
  else if ¬ decide (foldF l o.path = 0) = decide (o.kind = 7) then (l, 4, ⟨#[]⟩)
  else if o.kind = 7 then (l, 0, listL l o.path)
  else if o.kind = 4 then (l, 0, dataAt l (findF l o.path).toNat)
  else (putAtL l (findF l o.path).toNat o.data, 0, ⟨#[]⟩)
def plainL (l : List It3) (o : OpV) : Plain3 :=
  if itemsOk l = false ∨ opOk o = false then (l, 1, ⟨#[]⟩)
  else if o.kind = 1 ∨ o.kind = 2 then ((makeL l o).1, (makeL l o).2, ⟨#[]⟩)
  else doL l o
end Go.Proofs.YtoenfbbadfcfpaaGreatDoor
namespace Go.Proofs.YtoenfbbadfcfpaaGreatDoor
open Go.VM Go
set_option maxRecDepth 100000
attribute [-go_sem] runW_cons
attribute [local congr] vw_congr runV_congr runH_congr runW_congr runX_congr stuckV_congr stuckX_congr
theorem big41 {x : Nat} (h : x ≤ 1000) : ¬ x * (40 + 1) > bigRow := by
  have h1 : x * (40 + 1) ≤ 1000 * 41 := Nat.mul_le_mul_right _ h
  have h2 : 1000 * 41 ≤ bigRow := by decide
  exact Nat.not_lt.2 (Nat.le_trans h1 h2)
theorem iRow_plain (l : List It3) : ((l.map iRow).all fun r => r.all plainT) = true := by
  rw [List.all_eq_true]
  intro r hr
  obtain ⟨x, _, rfl⟩ := List.mem_map.1 hr
  rfl
theorem runs_folder (l : List It3) (q : ByteArray) (hl : l.length < 2 ^ 62) : Runs Tryz.prog 58 [.one (.v (.list false 3 (l.map iRow))), .one (.v (.str q))] [.one (.v (.int .i64 (foldF l q)))] [] := by
  have hF := runs_28 l q (by omega)
  by_cases hz : q = ⟨#[]⟩
  · rw [show foldF l q = 0 from if_pos hz]
    refine runs_tab (tab := [(0, .c (.list false 3 (l.map iRow))), (1, .c (.str q))]) (rts := []) (n := 21) (k := 2) Tryz.func58 rfl rfl (by simp) rfl (fun t => ?_) rfl ?_
    · rcases t with _ | _ | t <;> rfl
    have hz' : decide (q = ⟨#[]⟩) = true := by simp [hz]
    refine vw_go rfl ?_; simp only [go_sem, setCells, setIn]
    refine vw_seq ?_
    refine vw_go rfl ?_; simp only [hz', go_sem, setCells, setIn]
    refine vw_cond (t := true) rfl (fun h => ?_) (fun h => ?_)
    case refine_2 => cases h
    refine vw_go rfl ?_; simp only [go_sem, setCells, setIn]
    exact vw_ret (r_then (e_ret (ret_of rfl rfl (by simp [RB]) rfl rfl)))
  have hz' : decide (q = ⟨#[]⟩) = false := by simp [hz]
  rcases idxOf_at (hasPath q) l 0 with e | ⟨j, x, e, hx⟩
  · rw [show foldF l q = 2 from by unfold foldF findF; rw [if_neg hz, e]; rfl]
    rw [e] at hF
    refine runs_tab (tab := [(0, .c (.list false 3 (l.map iRow))), (1, .c (.str q))]) (rts := []) (n := 21) (k := 2) Tryz.func58 rfl rfl (by simp) rfl (fun t => ?_) rfl ?_
    · rcases t with _ | _ | t <;> rfl
    refine vw_go rfl ?_; simp only [go_sem, setCells, setIn]
    refine vw_seq ?_
    refine vw_go rfl ?_; simp only [hz', go_sem, setCells, setIn]
    refine vw_cond (t := false) rfl (fun h => ?_) (fun h => ?_)
    · cases h
    refine vw_skip (n_then ?_)
    refine vw_go rfl ?_; simp only [go_sem, setCells, setIn]
    refine ⟨_, _, call_rx [0, 0] Tryz.func28 (hF) rfl rfl rfl rfl rfl rfl rfl (by simp [lendAll, lendC, seek, fresh, nav, rcells, RT.cells, VV.cells, tabE_cons, tabS_cons, ev, take_map_len, iRow_r1, iRow_clean]) rfl (by simp [rcells, RT.cells, CT.clean, T.clean, iRow_r1, iRow_clean]) rfl rfl, ?_⟩
    simp only [runH, runX, go_sem, setCells, setIn]
    refine vw_seq ?_
    refine vw_block ?_
    refine vw_go rfl ?_; simp only [go_sem, setCells, setIn]
    refine vw_cond (t := true) rfl (fun h => ?_) (fun h => ?_)
    case refine_2 => cases h
    refine vw_go rfl ?_; simp only [go_sem, setCells, setIn]
    exact vw_ret (r_block (r_then (e_ret (ret_of rfl rfl (by simp [RB]) rfl rfl))))
  · rw [Nat.zero_add] at e
    rw [e] at hF
    have hlt := lt_of_getl hx
    rw [show foldF l q = if x.2.1 = true then 0 else 4 from by unfold foldF findF; rw [if_neg hz, e, if_neg (by omega), Int.toNat_natCast, dirAt, hx]]
    refine runs_tab (tab := [(0, .c (.list false 3 (l.map iRow))), (1, .c (.str q))]) (rts := []) (n := 21) (k := 2) Tryz.func58 rfl rfl (by simp) rfl (fun t => ?_) rfl ?_
    · rcases t with _ | _ | t <;> rfl
    have c1 : (0:Int) ≤ (j:Int) := by omega
    have c2 : (j:Int) < (l.length : Int) := by omega
    have c3 : ((j:Int) < 0) = False := eq_false (by omega)
    refine vw_go rfl ?_; simp only [go_sem, setCells, setIn]
    refine vw_seq ?_
    refine vw_go rfl ?_; simp only [hz', go_sem, setCells, setIn]
    refine vw_cond (t := false) rfl (fun h => ?_) (fun h => ?_)
    · cases h
    refine vw_skip (n_then ?_)
    refine vw_go rfl ?_; simp only [go_sem, setCells, setIn]
    refine ⟨_, _, call_rx [0, 0] Tryz.func28 (hF) rfl rfl rfl rfl rfl rfl rfl (by simp [lendAll, lendC, seek, fresh, nav, rcells, RT.cells, VV.cells, tabE_cons, tabS_cons, ev, take_map_len, iRow_r1, iRow_clean]) rfl (by simp [rcells, RT.cells, CT.clean, T.clean, iRow_r1, iRow_clean]) rfl rfl, ?_⟩
    simp only [runH, runX, go_sem, setCells, setIn]
    refine vw_seq ?_
    refine vw_block ?_
    refine vw_go rfl ?_; simp only [c3, go_sem, setCells, setIn]
    refine vw_cond (t := false) rfl (fun h => ?_) (fun h => ?_)
    · cases h
    refine vw_go rfl ?_; simp only [c1, c2, Int.toNat_natCast, getD_map_of hx, iRow, go_sem, setCells, setIn]
    refine vw_cond (t := !x.2.1) rfl (fun h => ?_) (fun h => ?_)
    · (refine vw_go rfl ?_; simp only [go_sem, setCells, setIn])
      rw [show (if x.2.1 = true then (0:Int) else 4) = 4 from by rw [if_neg (by simpa using h)]]
      exact vw_ret (r_block (r_then (e_ret (ret_of rfl rfl (by simp [RB]) rfl rfl))))
    · refine vw_skip (n_block (n_then ?_))
      refine vw_go rfl ?_; simp only [go_sem, setCells, setIn]
      rw [show (if x.2.1 = true then (0:Int) else 4) = 0 from by rw [if_pos (by simpa using h)]]
      exact vw_ret (e_ret (ret_of rfl rfl (by simp [RB]) rfl rfl))
theorem runs_89 (l : List It3) (hb : ∀ x ∈ l, x.1.size ≤ 2 ^ 20) (hl : l.length < 2 ^ 62) (q : ByteArray) (hq : q.size ≤ 2 ^ 20) : Runs Tryz.prog 89 [.one (.v (.list false 3 (l.map iRow))), .one (.v (.str q))] [.one (.v (.bool (kidsB l q)))] [] := by
  refine runs_tab (tab := [(0, .c (.list false 3 (l.map iRow))), (1, .c (.str q))]) (rts := []) (n := 28) (k := 2) Tryz.func89 rfl rfl (by simp) rfl (fun t => ?_) rfl ?_
  · rcases t with _ | _ | t <;> rfl
  refine vw_go rfl ?_; simp only [go_sem, setCells, setIn]
  refine vw_seq ?_
  refine vw_go rfl ?_; simp only [go_sem, setCells, setIn]
  refine vw_block ?_
  refine vw_loop_tab (α := Nat) (fun x => l.length - x) (fun x => ⟨tabE [(0, .c (.list false 3 (l.map iRow))), (1, .c (.str q)), (5, .c (.int .i64 x))], tabS [], 2⟩)
    (fun x => x ≤ l.length ∧ kidsB (l.drop x) q = kidsB l q) (x := 0) ?round ?h0 ?hn
  case h0 => exact ⟨Nat.zero_le _, rfl⟩
  case hn => (refine norm_to [] rfl ?_ ?_ <;> simp only [go_sem])
  rintro i ⟨hi, hm⟩
  refine vw_seq ?_
  by_cases hc : (i : Int) < l.length
  case neg =>
    rw [List.drop_eq_nil_of_le (by omega)] at hm
    rw [← hm]
    refine vw_go rfl ?_; simp only [hc, go_sem, setCells, setIn]
    refine vw_cond (t := false) rfl (fun h => nomatch h) (fun _ => ?_)
    refine vw_exit (x_then (x_then (x_block (n_then ?_))))
    refine vw_go rfl ?_; simp only [go_sem, setCells, setIn]
    exact vw_ret (e_ret (ret_of rfl rfl (by simp [RB]) rfl rfl))
  have hin : i < l.length := by omega
  obtain ⟨x, hx⟩ : ∃ x, l[i]? = some x := ⟨_, List.getElem?_eq_getElem hin⟩
  rw [drop_of hx] at hm
  unfold kidsB at hm
  rw [List.any_cons] at hm
  have d0 : (0:Int) ≤ (i : Int) := by omega
  have w3 : IntKind.wrap .i64 ((i:Int) + 1) = ((i + 1 : Nat) : Int) := by rw [wrap_i64 (by omega) (by omega)]; rfl
  have rU := runs_90 x.1 q (hb x (List.mem_of_getElem? hx)) hq
  refine vw_go rfl ?_; simp only [hc, go_sem, setCells, setIn]
  refine vw_cond (t := true) rfl (fun _ => ?_) (fun h => nomatch h)
  refine vw_skip (n_then ?_)
  refine vw_seq ?_
  refine vw_block ?_
  by_cases hz : x.1 = q
  · have hz' : decide (x.1 = q) = true := by simp [hz]
    refine vw_go rfl ?_; simp only [d0, hc, hin, Int.toNat_natCast, getD_map_of hx, iRow, hz', go_sem, setCells, setIn]
    refine vw_cond (t := false) rfl (fun h => nomatch h) (fun _ => ?_)
    refine vw_skip (n_block (n_then ?_))
    refine vw_last rfl ?_; simp only [w3, go_sem, setCells, setIn]
    refine (n_then ?_)
    rw [hz', Bool.not_true, Bool.false_and, Bool.false_or] at hm
    refine ⟨i + 1, by omega, ⟨by omega, hm⟩, ?_⟩
    refine norm_to [] rfl ?_ ?_ <;> simp only [go_sem]
  have hz' : decide (x.1 = q) = false := by simp [hz]
  rw [hz', Bool.not_false, Bool.true_and] at hm
  generalize underB x.1 q = u at rU hm
  refine vw_go rfl ?_; simp only [d0, hc, hin, Int.toNat_natCast, getD_map_of hx, iRow, hz', go_sem, setCells, setIn]
  refine ⟨_, _, call_rd [0, 0] Tryz.func90 (rU) rfl rfl rfl rfl rfl rfl rfl rfl rfl rfl rfl rfl rfl, ?_⟩
  cases u
  · rw [Bool.false_or] at hm
    simp only [runH, runX, go_sem, setCells, setIn]
    refine vw_cond (t := false) rfl (fun h => nomatch h) (fun _ => ?_)
    refine vw_skip (n_block (n_then ?_))
    refine vw_last rfl ?_; simp only [w3, go_sem, setCells, setIn]
    refine (n_then ?_)
    refine ⟨i + 1, by omega, ⟨by omega, hm⟩, ?_⟩
    refine norm_to [] rfl ?_ ?_ <;> simp only [go_sem]
  · rw [Bool.true_or] at hm
    simp only [runH, runX, go_sem, setCells, setIn]
    refine vw_cond (t := true) rfl (fun _ => ?_) (fun h => nomatch h)
    refine vw_go rfl ?_; simp only [go_sem, setCells, setIn]
    rw [show kidsB l q = true from hm.symm]
    exact vw_ret (r_block (r_then (r_then (r_block (r_then (e_ret (ret_of rfl rfl (by simp [RB]) rfl rfl)))))))
set_option maxHeartbeats 1000000 in
theorem runs_31 (l : List It3) (hl : l.length ≤ 11) (o : OpV) (hp : o.path.size ≤ 2 ^ 20) (R : List It3 × Int) (hR : R = makeL l o) :
    Runs Tryz.prog 31 [.one (.v (.list true 3 (l.map iRow))), .agg [.v (.int .i64 o.kind), .v (.str o.path), .v (.str o.to), .v (.str o.data)]] [.one (.v (.list true 3 (R.1.map iRow))), .one (.v (.int .i64 R.2))] [] := by
  refine runs_tab (tab := [(0, .al 0 [] 0 3 0 l.length), (1, .agg [.c (.int .i64 o.kind), .c (.str o.path), .c (.str o.to), .c (.str o.data)])]) (rts := [(0, some ⟨false, 3, l.map iRow, []⟩)]) (n := 50) (k := 5) Tryz.func31 rfl rfl (by simp) rfl (fun t => ?_) rfl ?_
  · rcases t with _ | _ | t <;> simp [envOf, rvv, RT.vv, CT.vv, cvv, tabE_cons, tabE_nil, rcells, RT.cells]
  unfold makeL at hR
  have bl : List.take l.length (l.map iRow) = l.map iRow := List.take_of_length_le (by simp)
  have rF := runs_28 l o.path (by omega)
  have rS := runs_57 o.path hp
  have rD := runs_folder l (splitF o.path).1 (by omega)
  change Runs _ _ _ [.one (.v (.int .i64 (findF l o.path)))] _ at rF
  generalize findF l o.path = fi at rF hR
  generalize foldF l (splitF o.path).1 = fo at rD hR
  generalize splitF o.path = sp at rS rD hR
  obtain ⟨up, nm, ok⟩ := sp
  simp only at rS rD hR
  refine vw_go rfl ?_; simp only [go_sem, setCells, setIn]
  refine vw_seq ?_
  by_cases hz : o.path = ⟨#[]⟩
  · rw [if_pos (.inl hz)] at hR
    subst hR
    have hz' : decide (o.path = ⟨#[]⟩) = true := by simp [hz]
    refine vw_go rfl ?_; simp only [hz', bl, go_sem, setCells, setIn]
    refine vw_cond (t := true) rfl (fun _ => ?_) (fun h => nomatch h)
    refine vw_go rfl ?_; simp only [go_sem, setCells, setIn]
    exact vw_ret (r_then (e_ret (ret_by rfl rfl (by simp [RB]) rfl (by simp only [takeCs, takeC, go_sem, setCells, setIn]))))
  have hz' : decide (o.path = ⟨#[]⟩) = false := by simp [hz]
  refine vw_go rfl ?_; simp only [hz', bl, go_sem, setCells, setIn]
  refine ⟨_, _, call_rx [0, 0] Tryz.func28 (rF) rfl rfl rfl rfl rfl rfl rfl (by simp [lendAll, lendC, seek, fresh, nav, rcells, RT.cells, VV.cells, tabE_cons, tabS_cons, ev, take_map_len, iRow_r1, iRow_clean, bl]) rfl (by simp [rcells, RT.cells, CT.clean, T.clean, iRow_r1, iRow_clean, bl]) rfl rfl, ?_⟩
  by_cases hf : 0 ≤ fi
  · rw [if_pos (.inr hf)] at hR
    subst hR
    simp only [runH, runX, hf, bl, go_sem, setCells, setIn]
    refine vw_cond (t := true) rfl (fun _ => ?_) (fun h => nomatch h)
    refine vw_go rfl ?_; simp only [go_sem, setCells, setIn]
    exact vw_ret (r_then (e_ret (ret_by rfl rfl (by simp [RB]) rfl (by simp only [takeCs, takeC, go_sem, setCells, setIn]))))
  rw [if_neg (by rintro (h | h); exact hz h; exact hf h)] at hR
  simp only [runH, runX, hf, bl, go_sem, setCells, setIn]
  refine vw_cond (t := false) rfl (fun h => nomatch h) (fun _ => ?_)
  refine vw_skip (n_then ?_)
  refine vw_go rfl ?_; simp only [go_sem, setCells, setIn]
  refine ⟨_, _, call_rx [0] Tryz.func57 (rS) rfl rfl rfl rfl rfl rfl rfl (by simp [lendAll, lendC, seek, fresh, nav, rcells, RT.cells, VV.cells, tabE_cons, tabS_cons, ev, take_map_len, iRow_r1, iRow_clean]) rfl (by simp [rcells, RT.cells, CT.clean, T.clean, iRow_r1, iRow_clean]) rfl rfl, ?_⟩
  simp only [runH, runX, go_sem, setCells, setIn]
  refine vw_go rfl ?_; simp only [bl, go_sem, setCells, setIn]
  refine ⟨_, _, call_rx [0, 0] Tryz.func58 (rD) rfl rfl rfl rfl rfl rfl rfl (by simp [lendAll, lendC, seek, fresh, nav, rcells, RT.cells, VV.cells, tabE_cons, tabS_cons, ev, take_map_len, iRow_r1, iRow_clean, bl]) rfl (by simp [rcells, RT.cells, CT.clean, T.clean, iRow_r1, iRow_clean, bl]) rfl rfl, ?_⟩
  simp only [runH, runX, bl, go_sem, setCells, setIn]
  refine vw_seq ?_
  by_cases h0 : fo = 0
  case neg =>
    rw [if_pos h0] at hR
    subst hR
    refine vw_go rfl ?_; simp only [h0, bl, go_sem, setCells, setIn]
    refine vw_cond (t := true) rfl (fun _ => ?_) (fun h => nomatch h)
    refine vw_go rfl ?_; simp only [go_sem, setCells, setIn]
    exact vw_ret (r_then (e_ret (ret_by rfl rfl (by simp [RB]) rfl (by simp only [takeCs, takeC, go_sem, setCells, setIn]))))
  rw [if_neg (fun h => h h0)] at hR
  refine vw_go rfl ?_; simp only [h0, go_sem, setCells, setIn]
  refine vw_cond (t := false) rfl (fun h => nomatch h) (fun _ => ?_)
  refine vw_skip (n_then ?_)
  refine vw_seq ?_
  by_cases h11 : l.length = 11
  · rw [if_pos h11] at hR
    subst hR
    have h11' : (l.length : Int) = 11 := by omega
    refine vw_go rfl ?_; simp only [h11', go_sem, setCells, setIn]
    refine vw_cond (t := true) rfl (fun _ => ?_) (fun h => nomatch h)
    refine vw_go rfl ?_; simp only [go_sem, setCells, setIn]
    exact vw_ret (r_then (e_ret (ret_by rfl rfl (by simp [RB]) rfl (by simp only [takeCs, takeC, go_sem, setCells, setIn]))))
  rw [if_neg h11] at hR
  subst hR
  have h11' : ¬ (l.length : Int) = 11 := by omega
  have B0 : ¬ (l.length + 1) * (40 + 1) > bigRow := big41 (by omega)
  have B1 : ¬ (l.length + 1 + 1) * (40 + 1) > bigRow := big41 (by omega)
  refine vw_go rfl ?_; simp only [h11', go_sem, setCells, setIn]
  refine vw_cond (t := false) rfl (fun h => nomatch h) (fun _ => ?_)
  refine vw_skip (n_then ?_)
  refine vw_drawA mixed rfl rfl ?_; intro A hAA
  have bt : List.take (l.length + 1) (l.map iRow ++ [[T.str o.path, T.bool (decide (o.kind = 2)), T.str (⟨#[]⟩ : ByteArray)]]) = (l ++ [((o.path, decide (o.kind = 2), (⟨#[]⟩ : ByteArray)) : It3)]).map iRow := by
    rw [List.map_append]; exact List.take_of_length_le (by simp)
  simp (maxSteps := 1000000) only [B0, B1, bl, List.drop_length, List.length_append, iRow_plain, range1, List.replicate_succ, List.replicate_zero, List.flatten_cons, List.flatten_nil, List.range_zero, gt_iff_lt, go_sem, setCells, setIn, runW_step]
  refine ⟨by subst hAA; unfold allOk; kernel_rfl, ?_⟩
  have hle : l.length + 1 ≤ (l.map iRow ++ [[T.str o.path, T.bool (decide (o.kind = 2)), T.str (⟨#[]⟩ : ByteArray)]]).length := by simp
  exact vw_ret (e_ret (ret_by rfl rfl (by simp [RB]) rfl (by simp only [takeCs, takeC, bt, hle, List.drop_zero, go_sem, setCells, setIn])))
set_option maxHeartbeats 1000000 in
theorem runs_63 (l : List It3) (hl : l.length ≤ 11) (hb : ∀ x ∈ l, x.1.size ≤ 2 ^ 20) (o : OpV) (hp : o.path.size ≤ 2 ^ 20) (R : List It3 × Int) (hR : R = dropL l o) :
    Runs Tryz.prog 63 [.one (.v (.list true 3 (l.map iRow))), .agg [.v (.int .i64 o.kind), .v (.str o.path), .v (.str o.to), .v (.str o.data)]] [.one (.v (.list true 3 (R.1.map iRow))), .one (.v (.int .i64 R.2))] [] := by
  refine runs_tab (tab := [(0, .al 0 [] 0 3 0 l.length), (1, .agg [.c (.int .i64 o.kind), .c (.str o.path), .c (.str o.to), .c (.str o.data)])]) (rts := [(0, some ⟨false, 3, l.map iRow, []⟩)]) (n := 41) (k := 5) Tryz.func63 rfl rfl (by simp) rfl (fun t => ?_) rfl ?_
  · rcases t with _ | _ | t <;> simp [envOf, rvv, RT.vv, CT.vv, cvv, tabE_cons, tabE_nil, rcells, RT.cells]
  unfold dropL at hR
  have bl : List.take l.length (l.map iRow) = l.map iRow := List.take_of_length_le (by simp)
  have rK := runs_89 l hb (by omega) o.path hp
  generalize kidsB l o.path = kb at rK hR
  refine vw_go rfl ?_; simp only [go_sem, setCells, setIn]
  refine vw_seq ?_
  by_cases hz : o.path = ⟨#[]⟩
  · rw [if_pos (.inl hz)] at hR
    subst hR
    have hz' : decide (o.path = ⟨#[]⟩) = true := by simp [hz]
    refine vw_go rfl ?_; simp only [hz', bl, go_sem, setCells, setIn]
    refine vw_cond (t := true) rfl (fun _ => ?_) (fun h => nomatch h)
    refine vw_go rfl ?_; simp only [go_sem, setCells, setIn]
    exact vw_ret (r_then (e_ret (ret_by rfl rfl (by simp [RB]) rfl (by simp only [takeCs, takeC, go_sem, setCells, setIn]))))
  have hz' : decide (o.path = ⟨#[]⟩) = false := by simp [hz]
  refine vw_go rfl ?_; simp only [hz', bl, go_sem, setCells, setIn]
  refine ⟨_, _, call_rx [0, 0] Tryz.func89 (rK) rfl rfl rfl rfl rfl rfl rfl (by simp [lendAll, lendC, seek, fresh, nav, rcells, RT.cells, VV.cells, tabE_cons, tabS_cons, ev, take_map_len, iRow_r1, iRow_clean, bl]) rfl (by simp [rcells, RT.cells, CT.clean, T.clean, iRow_r1, iRow_clean, bl]) rfl rfl, ?_⟩
  cases kb
  case true =>
    rw [if_pos (.inr rfl)] at hR
    subst hR
    simp only [runH, runX, bl, go_sem, setCells, setIn]
    refine vw_cond (t := true) rfl (fun _ => ?_) (fun h => nomatch h)
    refine vw_go rfl ?_; simp only [go_sem, setCells, setIn]
    exact vw_ret (r_then (e_ret (ret_by rfl rfl (by simp [RB]) rfl (by simp only [takeCs, takeC, go_sem, setCells, setIn]))))
  rw [if_neg (by rintro (h | h); exact hz h; cases h)] at hR
  subst hR
  simp only [runH, runX, bl, go_sem, setCells, setIn]
  refine vw_cond (t := false) rfl (fun h => nomatch h) (fun _ => ?_)
  refine vw_skip (n_then ?_)
  refine vw_go rfl ?_; simp only [range1, List.replicate_succ, List.replicate_zero, List.flatten_cons, List.flatten_nil, List.range_zero, gt_iff_lt, go_sem, setCells, setIn]
  refine vw_seq ?_
  refine vw_go rfl ?_; simp only [go_sem, setCells, setIn]
  refine vw_block ?_
  refine vw_loop_tab (α := Nat × List It3 × List Path) (fun x => l.length - x.1) (fun x => ⟨tabE [(0, .al 0 [] 0 3 0 l.length), (3, .ptr 5 [] 0 0 0), (6, .al 6 [] 0 3 0 x.2.1.length), (7, .c (.int .i64 x.1))],
      tabS [(0, some ⟨false, 3, l.map iRow, []⟩), (5, some ⟨true, 4, [[.int .i64 o.kind, .str o.path, .str o.to, .str o.data]], []⟩), (6, some ⟨false, 3, x.2.1.map iRow, x.2.2⟩)], 7⟩)
    (fun x => x.1 ≤ l.length ∧ x.2.1 ++ (l.drop x.1).filter (fun y => !decide (y.1 = o.path)) = l.filter (fun y => !decide (y.1 = o.path)) ∧ x.2.1.length ≤ x.1) (x := (0, [], [])) ?round ?h0 ?hn
  case h0 => exact ⟨Nat.zero_le _, rfl, Nat.le_refl _⟩
  case hn =>
    refine norm_to [(0, 0), (5, 5), (131077, 6)] rfl ?_ ?_ <;> simp only [go_sem]
  rintro ⟨i, q, lg⟩ ⟨hi, hg, hql⟩
  simp only at hi hg hql
  refine vw_seq ?_
  by_cases hc : (i : Int) < l.length
  case neg =>
    rw [List.drop_eq_nil_of_le (by omega)] at hg
    rw [← hg, List.filter_nil, List.append_nil]
    have bq : List.take q.length (q.map iRow) = q.map iRow := List.take_of_length_le (by simp)
    refine vw_go rfl ?_; simp only [hc, go_sem, setCells, setIn]
    refine vw_cond (t := false) rfl (fun h => nomatch h) (fun _ => ?_)
    refine vw_exit (x_then (x_then (x_block (n_then ?_))))
    refine vw_go rfl ?_; simp only [go_sem, setCells, setIn]
    exact vw_ret (e_ret (ret_by rfl rfl (by simp [RB]) rfl (by simp only [takeCs, takeC, bq, go_sem, setCells, setIn])))
  have hin : i < l.length := by omega
  obtain ⟨x, hx⟩ : ∃ x, l[i]? = some x := ⟨_, List.getElem?_eq_getElem hin⟩
  rw [drop_of hx, List.filter_cons] at hg
  have d0 : (0:Int) ≤ (i : Int) := by omega
  have w3 : IntKind.wrap .i64 ((i:Int) + 1) = ((i + 1 : Nat) : Int) := by rw [wrap_i64 (by omega) (by omega)]; rfl
  refine vw_go rfl ?_; simp only [hc, go_sem, setCells, setIn]
  refine vw_cond (t := true) rfl (fun _ => ?_) (fun h => nomatch h)
  refine vw_skip (n_then ?_)
  refine vw_seq ?_
  refine vw_block ?_
  refine vw_drawA mixed rfl rfl ?_; intro A hAA
  by_cases hz : x.1 = o.path
  · have hz' : decide (x.1 = o.path) = true := by simp [hz]
    rw [hz'] at hg
    simp (maxSteps := 1000000) only [d0, hc, hin, Int.toNat_natCast, getD_map_of hx, iRow, hz', go_sem, setCells, setIn, runW_step]
    refine ⟨by subst hAA; unfold allOk; kernel_rfl, ?_⟩
    refine vw_cond (t := false) rfl (fun h => nomatch h) (fun _ => ?_)
    refine vw_skip (n_block (n_then ?_))
    refine vw_last rfl ?_; simp only [w3, go_sem, setCells, setIn]
    refine (n_then ?_)
    refine ⟨(i + 1, q, lg), by simp only; omega, ⟨by simp only; omega, hg, by simp only; omega⟩, ?_⟩
    refine norm_to [(0, 0), (5, 5), (6, 6)] rfl ?_ ?_ <;> simp only [go_sem]
  have hz' : decide (x.1 = o.path) = false := by simp [hz]
  rw [hz'] at hg
  have bq : List.take q.length (q.map iRow) = q.map iRow := List.take_of_length_le (by simp)
  have B1 : ¬ (q.length + 1 + 1) * (40 + 1) > bigRow := big41 (by omega)
  simp (maxSteps := 1000000) only [d0, hc, hin, Int.toNat_natCast, getD_map_of hx, iRow, hz', go_sem, setCells, setIn, runW_step]
  refine ⟨by subst hAA; unfold allOk; kernel_rfl, ?_⟩
  refine vw_cond (t := true) rfl (fun _ => ?_) (fun h => nomatch h)
  refine vw_last rfl ?_; simp only [d0, hc, hin, Int.toNat_natCast, getD_map_of hx, iRow, B1, bq, List.drop_length, range1, List.replicate_succ, List.replicate_zero, List.flatten_cons, List.flatten_nil, List.range_zero, gt_iff_lt, go_sem, setCells, setIn]
  refine (n_block (n_then ?_))
  refine vw_last rfl ?_; simp only [w3, go_sem, setCells, setIn]
  refine (n_then ?_)
  have e4 : q.map iRow ++ [[.str x.1, .bool x.2.1, .str x.2.2]] = (q ++ [x]).map iRow := by simp [iRow]
  rw [e4]
  refine ⟨(i + 1, q ++ [x], []), by simp only; omega, ⟨by simp only; omega, by simpa using hg, by simp; omega⟩, ?_⟩
  have e5 : q.length + 1 = (q ++ [x]).length := by simp
  rw [e5]
  generalize q ++ [x] = q'
  refine norm_to [(0, 0), (5, 5), (137223, 6)] rfl ?_ ?_ <;> simp only [go_sem]
end Go.Proofs.YtoenfbbadfcfpaaGreatDoor
namespace Go.Proofs.YtoenfbbadfcfpaaGreatDoor
open Go.VM Go
theorem bl_irrefl : ∀ x : List UInt8, Op.bytesLess x x = false
  | [] => rfl
  | a :: x => by
    rw [Op.bytesLess, bl_irrefl x]
    simp
theorem bl_cons {a b : UInt8} {x y : List UInt8} : Op.bytesLess (a :: x) (b :: y) = true ↔ (a < b ∨ (a = b ∧ Op.bytesLess x y = true)) := by
  rw [Op.bytesLess]
  simp
theorem bl_trans : ∀ {x y z : List UInt8}, Op.bytesLess x y = true → Op.bytesLess y z = true → Op.bytesLess x z = true
  | x, [], z, h, _ => by cases x <;> simp [Op.bytesLess] at h
  | x, b :: y, [], _, h => by simp [Op.bytesLess] at h
  | [], b :: y, c :: z, _, _ => rfl
  | a :: x, b :: y, c :: z, h1, h2 => by
    rw [bl_cons] at h1 h2 ⊢
    rcases h1 with h1 | ⟨rfl, h1⟩ <;> rcases h2 with h2 | ⟨rfl, h2⟩
    · exact .inl (UInt8.lt_trans h1 h2)
    · exact .inl h1
    · exact .inl h2
    · exact .inr ⟨rfl, bl_trans h1 h2⟩
theorem bl_total : ∀ {x y : List UInt8}, Op.bytesLess x y = false → Op.bytesLess y x = false → x = y
  | [], [], _, _ => rfl
  | [], b :: y, h, _ => by simp [Op.bytesLess] at h
  | a :: x, [], _, h => by simp [Op.bytesLess] at h
  | a :: x, b :: y, h1, h2 => by
    have n1 : ¬ (a < b ∨ (a = b ∧ Op.bytesLess x y = true)) := fun h => by rw [bl_cons.2 h] at h1; cases h1
    have n2 : ¬ (b < a ∨ (b = a ∧ Op.bytesLess y x = true)) := fun h => by rw [bl_cons.2 h] at h2; cases h2
    have hab : a = b := UInt8.le_antisymm (UInt8.not_lt.1 (fun h => n2 (.inl h))) (UInt8.not_lt.1 (fun h => n1 (.inl h)))
    subst hab
    have e1 : Op.bytesLess x y = false := by
      cases h : Op.bytesLess x y
      · rfl
      · exact absurd (.inr ⟨rfl, h⟩) n1
    have e2 : Op.bytesLess y x = false := by
      cases h : Op.bytesLess y x
      · rfl
      · exact absurd (.inr ⟨rfl, h⟩) n2
    rw [bl_total e1 e2]
def ltB (a b : ByteArray) : Bool := Op.bytesLess a.toList b.toList
theorem ltB_irrefl (a : ByteArray) : ltB a a = false := bl_irrefl _
theorem ltB_trans {a b c : ByteArray} (h1 : ltB a b = true) (h2 : ltB b c = true) : ltB a c = true := bl_trans h1 h2
theorem ltB_asymm {a b : ByteArray} (h : ltB a b = true) : ltB b a = false := by
  cases h2 : ltB b a
  · rfl
  · have := ltB_trans h h2; rw [ltB_irrefl] at this; cases this
theorem ltB_total {a b : ByteArray} (h1 : ltB a b = false) (h2 : ltB b a = false) : a = b := by
  have h := bl_total h1 h2
  have e := toList_beq a b
  rw [h, beq_self_eq_true] at e
  exact of_decide_eq_true e.symm
theorem gtS_lt {u s : ByteArray} (h : ltB u s = true) : gtS u s = false := by
  unfold gtS ltB at *
  rw [h]; rfl
theorem gtS_gt {u s : ByteArray} (h : ltB s u = true) : gtS u s = true := by
  have h1 := ltB_asymm h
  have h2 : u ≠ s := fun e => by rw [e, ltB_irrefl] at h; cases h
  unfold gtS ltB at *
  rw [h1, decide_eq_false h2]; rfl
theorem putLoop_at (s : ByteArray) (k : Int) : ∀ (A B : List ByteArray) (KA KB : List Int), A.length = KA.length → B.length = KB.length → (∀ u ∈ A, ltB u s = true) → (∀ u ∈ B, ltB s u = true) → putLoop s k false (A ++ B) (KA ++ KB) = (A ++ s :: B, KA ++ k :: KB)
  | [], [], [], [], _, _, _, _ => rfl
  | [], b :: B, [], c :: KB, _, _, _, hB => by
    simp only [List.nil_append]
    rw [putLoop, if_pos (gtS_gt (hB b (by simp)))]
  | a :: A, B, c :: KA, KB, h1, h2, hA, hB => by
    simp only [List.cons_append]
    rw [putLoop, if_neg (by rw [gtS_lt (hA a (by simp))]; decide), putLoop_at s k A B KA KB (by simpa using h1) h2 (fun u hu => hA u (by simp [hu])) hB]
  | [], [], [], _ :: _, _, h, _, _ => nomatch h
  | [], _ :: _, [], [], _, h, _, _ => nomatch h
  | [], _, _ :: _, _, h, _, _, _ => nomatch h
  | _ :: _, _, [], _, h, _, _, _ => nomatch h
theorem kidIx_none (s : ByteArray) : ∀ (xs : List ByteArray) (ys : List Int) (i : Nat), s ∉ xs → kidIx xs ys s i = -1
  | [], ys, i, _ => by cases ys <;> rfl
  | a :: xs, [], i, _ => rfl
  | a :: xs, b :: ys, i, h => by
    simp only [List.mem_cons, not_or] at h
    rw [kidIx]
    have := kidIx_none s xs ys (i + 1) h.2
    have h1 : ¬ a = s := fun e => h.1 e.symm
    simp [h1, this]
theorem skipN_none {α : Type} : ∀ (l : List α) (i : Nat), skipN (-1) i l = l
  | [], i => rfl
  | a :: l, i => by
    rw [skipN]
    have h : ¬ ((i : Int) = -1) := by omega
    simp [h, skipN_none l (i + 1)]
/-- A new name is put where it belongs. -/
theorem kidPut_at {n : NodeV} {s : ByteArray} {k : Int} {A B : List ByteArray} {KA KB : List Int} (hn : n.names = A ++ B) (hk : n.kids = KA ++ KB) (h1 : A.length = KA.length) (h2 : B.length = KB.length) (hA : ∀ u ∈ A, ltB u s = true) (hB : ∀ u ∈ B, ltB s u = true) :
    kidPutF n s k = ⟨n.dir, A ++ s :: B, KA ++ k :: KB, n.data⟩ := by
  have hs : s ∉ n.names := by
    rw [hn]
    intro h
    rcases List.mem_append.1 h with h | h
    · have := hA s h; rw [ltB_irrefl] at this; cases this
    · have := hB s h; rw [ltB_irrefl] at this; cases this
  have hd : kidDropF n s = n := by
    unfold kidDropF
    rw [kidIx_none s n.names n.kids 0 hs, skipN_none, skipN_none]
  unfold kidPutF
  rw [hd, hn, hk, putLoop_at s k A B KA KB h1 h2 hA hB]
/-! ### sorting by putting in -/
def Asc (l : List ByteArray) : Prop := l.Pairwise fun a b => ltB a b = true
def insG (L : List ByteArray) (s : ByteArray) : List ByteArray := L.takeWhile (fun u => ltB u s) ++ s :: L.dropWhile (fun u => ltB u s)
def sortL (l : List ByteArray) : List ByteArray := l.foldl insG []
theorem ins_of {A B : List ByteArray} {s : ByteArray} (hA : ∀ u ∈ A, ltB u s = true) (hB : ∀ u ∈ B, ltB s u = true) : insG (A ++ B) s = A ++ s :: B := by
  unfold insG
  induction A with
  | nil =>
    cases B with
    | nil => rfl
    | cons b B =>
      have : ltB b s = false := ltB_asymm (hB b (by simp))
      simp [List.takeWhile_cons, List.dropWhile_cons, this]
  | cons a A ih =>
    have h := hA a (by simp)
    have ih := ih (fun u hu => hA u (by simp [hu]))
    simp only [List.cons_append, List.takeWhile_cons, List.dropWhile_cons, h, if_true]
    rw [ih]
theorem ins_split : ∀ {L : List ByteArray} {s : ByteArray}, Asc L → s ∉ L → ∃ A B, L = A ++ B ∧ (∀ u ∈ A, ltB u s = true) ∧ (∀ u ∈ B, ltB s u = true) ∧ Asc (A ++ s :: B)
  | [], s, _, _ => ⟨[], [], rfl, (fun u h => nomatch h), (fun u h => nomatch h), by simp [Asc]⟩
  | a :: L, s, h, hs => by
    simp only [List.mem_cons, not_or] at hs
    have h' := List.pairwise_cons.1 h
    cases ha : ltB a s
    · have hsa : ltB s a = true := by
        cases h2 : ltB s a
        · exact absurd (ltB_total h2 ha) (fun e => hs.1 e)
        · rfl
      refine ⟨[], a :: L, rfl, (fun u h => nomatch h), fun u hu => ?_, ?_⟩
      · rcases List.mem_cons.1 hu with rfl | hu
        · exact hsa
        · exact ltB_trans hsa (h'.1 u hu)
      · refine List.pairwise_cons.2 ⟨fun u hu => ?_, h⟩
        rcases List.mem_cons.1 hu with rfl | hu
        · exact hsa
        · exact ltB_trans hsa (h'.1 u hu)
    · obtain ⟨A, B, e, hA, hB, hP⟩ := ins_split (L := L) (s := s) h'.2 hs.2
      refine ⟨a :: A, B, by rw [e]; rfl, fun u hu => ?_, hB, ?_⟩
      · rcases List.mem_cons.1 hu with rfl | hu
        · exact ha
        · exact hA u hu
      · refine List.pairwise_cons.2 ⟨fun u hu => ?_, hP⟩
        rcases List.mem_append.1 hu with hu | hu
        · exact h'.1 u (by rw [e]; exact List.mem_append.2 (.inl hu))
        · rcases List.mem_cons.1 hu with rfl | hu
          · exact ha
          · exact h'.1 u (by rw [e]; exact List.mem_append.2 (.inr hu))
theorem ins_mem {L : List ByteArray} {s x : ByteArray} : x ∈ insG L s ↔ x = s ∨ x ∈ L := by
  unfold insG
  have h := List.takeWhile_append_dropWhile (p := fun u => ltB u s) (l := L)
  rw [List.mem_append, List.mem_cons]
  constructor
  · rintro (h1 | h1 | h1)
    · exact .inr (by rw [← h]; exact List.mem_append.2 (.inl h1))
    · exact .inl h1
    · exact .inr (by rw [← h]; exact List.mem_append.2 (.inr h1))
  · rintro (h1 | h1)
    · exact .inr (.inl h1)
    · rw [← h] at h1
      rcases List.mem_append.1 h1 with h1 | h1
      · exact .inl h1
      · exact .inr (.inr h1)
theorem ins_asc {L : List ByteArray} {s : ByteArray} (h : Asc L) (hs : s ∉ L) : Asc (insG L s) := by
  obtain ⟨A, B, rfl, hA, hB, hP⟩ := ins_split h hs
  rw [ins_of hA hB]; exact hP
theorem ins_len (L : List ByteArray) (s : ByteArray) : (insG L s).length = L.length + 1 := by
  unfold insG
  have h := congrArg List.length (List.takeWhile_append_dropWhile (p := fun u => ltB u s) (l := L))
  simp only [List.length_append, List.length_cons] at h ⊢
  omega
theorem sort_asc : ∀ (l acc : List ByteArray), Asc acc → l.Nodup → (∀ x ∈ l, x ∉ acc) → Asc (l.foldl insG acc) ∧ ∀ x, x ∈ l.foldl insG acc ↔ x ∈ l ∨ x ∈ acc
  | [], acc, h, _, _ => ⟨h, fun x => by simp⟩
  | s :: l, acc, h, hd, hn => by
    rw [List.nodup_cons] at hd
    have hs := hn s (by simp)
    obtain ⟨h1, h2⟩ := sort_asc l (insG acc s) (ins_asc h hs) hd.2 (fun x hx hx2 => by
      rcases ins_mem.1 hx2 with rfl | hx2
      · exact hd.1 hx
      · exact hn x (by simp [hx]) hx2)
    refine ⟨h1, fun x => ?_⟩
    rw [List.foldl_cons, h2 x, ins_mem, List.mem_cons]
    constructor
    · rintro (h | h | h)
      · exact .inl (.inr h)
      · exact .inl (.inl h)
      · exact .inr h
    · rintro ((h | h) | h)
      · exact .inr (.inl h)
      · exact .inl h
      · exact .inr (.inr h)
end Go.Proofs.YtoenfbbadfcfpaaGreatDoor
