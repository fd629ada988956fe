/- A slice cut off at its own length, as a list of its own. Places of the program: the first clear page, free blocks. Places of the program: the next page. math/bits.Len of few. -/
import Derived.Test.YtkijdbljnefeaaaGreatPVOps
import Derived.Test.YtkijdbljnefeaaaGreatPFPlaceS
import Derived.Test.YtkijdbljnefeaaaGreatPFPlaceL
import Derived.Test.YtkijdbljnefeaaaGreatPFBigG
import Derived.Test.YtkijdbljnefeaaaGreatPFIn
set_option linter.unusedSimpArgs false
set_option linter.unusedVariables false
namespace Go.VM
open Go
theorem op_clip {P : Program} {fid : Nat} {env : Nat → VV} {st : St} {dst : Option Tmp} {t ty : TypeId} {x hi mx : Operand} {pos : String} {after : Array Edge} {g : Option (Nat × Bool)} {sz : Nat} {ys : List (List T)} {u : Ups} {e : TypeId}
    (hx : takeV st (ev P env t x) = some (.list true sz ys, u)) (he : elemT P t = some e) (hc : P.cellsOf e = sz)
    (hh : boundV (some (ev P env 0 hi)) ys.length = some ys.length) (hm : boundV (some (ev P env 0 mx)) ys.length = some ys.length) :
    OpOk P fid ⟨dst, .slice t x none (some hi) (some mx), ty, pos, after, g⟩ env st ⟨.al fid [] 0 sz 0 ys.length, u ++ [(fid, some ⟨false, sz, ys, []⟩)]⟩ := by
  refine opOk_of (fun w ow bs fr a h hre hroom => ?_)
  have hf0 : fr fid := by have := hroom 0 (by omega); simpa using this
  have R : ∀ t x, RelV w ow bs st fr (ev P env t x) (a.eval x) := fun t x => ev_rel hre t x
  have rx := R t x
  obtain ⟨owB, bsB, stB, k1, k2, k3, k4, k5, k6, k7⟩ := takeV_sound h hf0 (fun _ _ => rfl) (Quiet.refl _ _ _) (Kept.refl _ _) hx rx
  rcases k5 with ⟨hc1, _, _⟩ | ⟨sz', es', he', hst, hbv⟩
  · cases hc1
  simp only [T.list.injEq, true_and] at he'
  obtain ⟨rfl, rfl⟩ := he'
  obtain ⟨hu, hne⟩ := elemT_some he
  have hb : ∀ cap, ys.length ≤ cap → (Instr.sliceBounds true ys.length cap none (some (a.eval hi)) (some (a.eval mx))).run P w = .ok (0, ys.length, ys.length) w := by
    intro cap hcap
    unfold Instr.sliceBounds
    simp [bound_run (P := P) (R 0 mx) hm cap hcap, bound_run (P := P) (R 0 hi) hh ys.length (Nat.le_refl _)]
  have hV : ∀ x R, (st.ups (u ++ [(fid, some ⟨false, sz, ys, []⟩)])) x = some R → stB x = some R := by
    intro x R hR
    rw [St.ups_append, St.ups_cons, St.ups_nil] at hR
    by_cases e' : x = fid
    · subst e'; rw [St.put_eq] at hR; rw [← hR]; exact hst
    · rw [St.put_ne _ _ e'] at hR
      have hx : ¬ fr x := by
        intro hfx
        rw [ups_other (fun r R' hm e2 => k7 r R' hm (by rw [e2]; exact hfx)), h.free x hfx] at hR
        cases hR
      rw [k4 x hx]; exact hR
  have hnf : ∀ x, ¬ fr x → x ≠ fid := fun x hx e => hx (by rw [e]; exact hf0)
  have hsub : ∀ x, (fr x ∧ ¬ Mine fid x) → fr x ∧ x ≠ fid := fun x hx => ⟨hx.1, fun e => hx.2 (by rw [e]; exact ⟨Nat.le_refl _, by omega⟩)⟩
  have fin : ∀ (owC : Own) (bsC : Base) (val : Value), Rel w owC bsC stB (fun x => fr x ∧ x ≠ fid) → Kept w ow w owC → (∀ ℓ, ℓ ≠ (fid, []) → bsC ℓ = bsB ℓ) → (bsC (fid, [])).1 = sz → Sub sz (bsC (fid, [])).2 0 ys.length val → SliceOf ys.length val →
      (Instr.sliceAt t (a.eval x) none (some (a.eval hi)) (some (a.eval mx))).run P w = .ok val w →
      Does w ow bs st fr (fun y => fr y ∧ ¬ Mine fid y) ((execOp a.eval ⟨dst, .slice t x none (some hi) (some mx), ty, pos, after, g⟩).run P w) (.al fid [] 0 sz 0 ys.length) (st.ups (u ++ [(fid, some ⟨false, sz, ys, []⟩)])) := by
    intro owC bsC val q2 qk q4 q5 q6 q7 q8
    refine ⟨val, w, owC, bsC, .inl ?_, (q2.sub hV).shrink hsub, ?_, ⟨qk, Nat.le_refl _, rfl, rfl, rfl⟩, ?_⟩
    · simp [execOp, q8]
    · exact .al (fun e => e.2 ⟨Nat.le_refl _, by omega⟩) (fun _ => ⟨q5, q6⟩) q7 (fun R hR => Nat.zero_le _)
    · refine ⟨fun r hr => ?_, fun r p m hr hp hm hs => ?_, fun r R' hr hR' => ?_, fun r hr => hr.1⟩
      · rw [q4 _ (by simp [hnf r hr])]; exact k3.base r hr
      · have hs' : Still stB r p m := by
          rcases hs with h0 | ⟨R, h1, h2⟩
          · exact .inl h0
          · exact .inr ⟨R, hV r R h1, h2⟩
        have := k3.still r p m hr hp hm hs'
        exact ⟨this.1, by rw [q4 _ (by simp [hnf r hr])]; exact this.2⟩
      · exact k3.log r R' hr (hV r R' hR')
  have hroot := k1.root fid _ hst
  rw [hbv] at hroot
  simp only at hroot
  generalize hvx : a.eval x = vx at hroot hbv fin
  cases hroot with
  | ro h => cases h
  | nil base =>
    refine fin owB bsB (.slice none 0 0) k1 k2 (fun _ _ => rfl) (by rw [base]) ?_ ⟨_, _, rfl, Nat.le_refl _, (fun _ => ⟨rfl, rfl⟩), (fun b hb => by cases hb)⟩ ?_
    · rw [base]; exact .inr ⟨0, 0, rfl, rfl, rfl⟩
    · have := hb 0 (Nat.le_refl _)
      simp only [List.length_nil] at this
      simp [Instr.sliceAt, Instr.slice, run_underlying hu, this, sizeOf_run hne]
  | @list _ ad _ _ len cap c e0 z0 base spot own blk free hlen hcap fits hrw cells =>
    subst hlen
    obtain ⟨owC, q1, q2⟩ := k1.regrow (w' := w) (xs := []) (cap := ys.length) (o := ad.off) hst hbv blk (Nat.le_refl _) (fun _ _ _ => rfl) (fun _ => ⟨own, ad, _, _, rfl, rfl⟩) free (by simp) (Nat.le_trans (Nat.add_le_add_left (Nat.mul_le_mul_right _ hcap) _) fits)
      (fun a' l' cap' c' e' z' hv hb' k hk => by
        simp only [Value.slice.injEq, Option.some.injEq] at hv
        obtain ⟨rfl, _, _⟩ := hv
        rw [blk] at hb'
        cases hb'
        rfl)
      (fun i row hi => by cases hi) (fun i row j y hi _ => by cases hi)
    have had : ad = ⟨ad.block, ad.off, none⟩ := by
      cases ad
      simp only at spot
      subst spot
      rfl
    refine fin owC _ (.slice (some ⟨ad.block, ad.off, none⟩) ys.length ys.length) (q1.sub ?_) (fun b hb hlt => ⟨rfl, (q2 b (k2 b hb hlt).2 hlt).2⟩) (fun ℓ hℓ => if_neg hℓ) (by simp) ?_ ⟨_, _, rfl, Nat.le_refl _, (fun e => by cases e), (fun b hb => by cases hb; rfl)⟩ ?_
    · intro x R hR
      by_cases ex : x = fid
      · subst ex; rw [St.put_eq, List.append_nil, ← hst]; exact hR
      · rw [St.put_ne _ _ ex]; exact hR
    · simp only [if_true]
      exact .inl ⟨_, _, _, ad.off, ys.length, rfl, rfl, .inr (by simp), by simp, Nat.le_refl _, by simp, .inr (by simp)⟩
    · have e1 : Addr.add ad 0 = ⟨ad.block, ad.off, none⟩ := (add_eq _ _ spot).trans rfl
      have := hb cap hcap
      by_cases h0 : ys.length = 0
      · rw [h0] at this
        simp [Instr.sliceAt, Instr.slice, run_underlying hu, this, sizeOf_run hne, h0, ← had]
      · simp [Instr.sliceAt, Instr.slice, run_underlying hu, this, sizeOf_run hne, h0, e1]
end Go.VM
namespace Go.Proofs.YtkijdbljnefeaaaGreat
open Go.VM Go
def aheadPFLenN1 : List (List Nat) := [[], [], [0, 1], [0, 1, 2], [0, 1, 2, 3], [0, 1, 2, 3, 4], [0, 1, 2, 3, 4, 5], [0, 1, 2, 3, 4, 5, 6], [0, 1, 2, 3, 4, 5, 6, 7], [0, 1, 2, 3, 4, 5, 6], [0, 1, 2, 3, 4, 5, 6, 7, 8, 9], [0, 1, 2, 3, 4, 5, 6, 7, 8, 9, 10], [0, 1, 2, 3, 4, 5, 6], [0, 1, 2, 3, 4, 5, 6, 12], [0, 1, 2, 3, 4, 5, 6], [0, 1, 2, 3, 4, 5, 6, 12, 13, 14], [0, 1, 2, 3, 4, 5, 6, 12, 13, 14, 15], [0, 1, 2, 3, 4, 5, 6, 7, 8, 9, 10, 11, 12, 13, 14, 15, 16], [0, 1, 2, 3, 4, 5, 6, 7, 8, 9, 10, 11, 12, 13, 14, 15, 16, 17], [0, 1, 2, 3, 4, 5, 6, 7, 8, 9, 10, 11, 12, 13, 14, 15, 16, 17, 18]]
set_option maxRecDepth 100000
attribute [-go_sem] runW_cons
attribute [local congr] vw_congr runV_congr runH_congr runW_congr runX_congr stuckV_congr stuckX_congr
theorem runs_23 (L : List Int) (hl : L.length < 2 ^ 62) : Runs Tryz.prog 23 [.one (.v (.list true 1 (L.map nRow)))] [.one (.v (.list true 1 (L.map nRow)))] [] := by
  refine runs_tab (tab := [(0, .al 0 [] 0 1 0 L.length)]) (rts := [(0, some ⟨false, 1, L.map nRow, []⟩)]) (n := 9) (k := 1) Tryz.func23 rfl rfl (by simp) rfl (fun t => ?_) rfl ?_
  · rcases t with _ | t <;> simp [envOf, rvv, RT.vv, CT.vv, cvv, tabE_cons, tabE_nil, rcells, RT.cells]
  have bl : List.take L.length (L.map nRow) = L.map nRow := List.take_of_length_le (by simp)
  refine vw_go rfl ?_; simp only [go_sem, setCells, setIn]
  refine vw_go rfl ?_; simp only [go_sem, setCells, setIn]
  unfold stuckV
  refine ⟨_, _, op_clip (sz := 1) (ys := L.map nRow) (u := [(0, none)]) (by simp [takeV, tabE_cons, tabS_cons, seek, fresh, nav, takenUp, ev, bl]) elemT_25 cellsOf_3 (by simp [boundV, ev, tabE_cons]) (by simp [boundV, ev, tabE_cons]), ?_⟩
  simp only [runH, runX, go_sem, setCells, setIn]
  exact vw_ret (e_ret (ret_by rfl rfl (by simp [RB]) rfl (by simp only [takeCs, takeC, go_sem, setCells, setIn])))
theorem runs_62 (s : ByteArray) : Runs Tryz.prog 62 [.one (.v (.str s))] [.one (.v (.bool (decide (¬ s = ⟨#[]⟩))))] [] := by
  refine runs_tab (tab := [(0, .c (.str s))]) (rts := []) (n := 5) (k := 1) Tryz.func62 rfl rfl (by simp) rfl (fun t => ?_) rfl ?_
  · rcases t with _ | t <;> rfl
  by_cases hs : s = ⟨#[]⟩
  · rw [show decide (¬ s = ⟨#[]⟩) = false from decide_eq_false (fun h => h hs)]
    have q1 : decide (s = ⟨#[]⟩) = true := decide_eq_true hs
    refine vw_go rfl ?_; simp only [go_sem, setCells, setIn]
    refine vw_go rfl ?_; simp only [q1, go_sem, setCells, setIn]
    exact vw_ret (e_ret (ret_of rfl rfl (by simp [RB]) rfl rfl))
  · rw [show decide (¬ s = ⟨#[]⟩) = true from decide_eq_true hs]
    have q1 : decide (s = ⟨#[]⟩) = false := decide_eq_false hs
    refine vw_go rfl ?_; simp only [go_sem, setCells, setIn]
    refine vw_go rfl ?_; simp only [q1, go_sem, setCells, setIn]
    exact vw_ret (e_ret (ret_of rfl rfl (by simp [RB]) rfl rfl))
theorem runs_45 (p : List ByteArray) (w : List Int) (hp : p.length = 60) (b : Nat) (hb : b < 10) :
    Runs Tryz.prog 45 [.agg [.v (.list false 1 (p.map sRow)), .v (.list false 1 (w.map nRow))], .one (.v (.int .i64 b))] [.one (.v (.int .i64 (fcF p b)))] [] := by
  refine runs_tab (tab := [(0, .agg [.c (.list false 1 (p.map sRow)), .c (.list false 1 (w.map nRow))]), (1, .c (.int .i64 b))]) (rts := []) (n := 26) (k := 3) Tryz.func45 rfl rfl (by simp) rfl (fun t => ?_) rfl ?_
  · rcases t with _ | _ | t <;> rfl
  have hF := fc_law (p := p) (b := b) (by omega)
  have hql : (pagesB p b).length = 6 := by rw [pagesB_eq (by omega)]; rfl
  have rI := runs_61 (pagesB p b) (by omega) ⟨#[]⟩
  have hk1 : idxOf (fun x => decide (⟨#[]⟩ = x)) (pagesB p b) 0 < ((0 : Nat) : Int) + (pagesB p b).length := idxOf_lt _ _ _ (by omega)
  have hk2 := idxOf_ge (fun x => decide (⟨#[]⟩ = x)) (pagesB p b) 0
  have e1 : List.take (b * 6 + 6 - b * 6) (List.drop (b * 6) (p.map sRow)) = (pagesB p b).map sRow := by
    rw [show b * 6 + 6 - b * 6 = 6 by omega, pagesB, List.map_take, List.map_drop]
  generalize hkk : idxOf (fun x => decide (⟨#[]⟩ = x)) (pagesB p b) 0 = k at rI hF hk1 hk2
  generalize hqq : pagesB p b = q at rI hF hk1 hk2 hql e1
  have v1 : IntKind.wrap .i64 ((b : Int) * 6) = ((b * 6 : Nat) : Int) := by rw [wrap_i64 (by omega) (by omega)]; omega
  have v2 : IntKind.wrap .i64 ((b : Int) + 1) = ((b + 1 : Nat) : Int) := by rw [wrap_i64 (by omega) (by omega)]; omega
  have v3 : IntKind.wrap .i64 (((b + 1 : Nat) : Int) * 6) = ((b * 6 + 6 : Nat) : Int) := by rw [wrap_i64 (by omega) (by omega)]; omega
  have c1 : (0:Int) ≤ ((b * 6 : Nat) : Int) := by omega
  have c2 : (0:Int) ≤ ((b * 6 + 6 : Nat) : Int) := by omega
  have c3 : b * 6 ≤ b * 6 + 6 := by omega
  have c4 : b * 6 + 6 ≤ p.length := by omega
  rw [← hF]
  refine vw_go rfl ?_; simp only [go_sem, setCells, setIn]
  refine vw_go rfl ?_; simp only [v1, v2, v3, c1, c2, c3, c4, Int.toNat_natCast, e1, range1, List.replicate_succ, List.replicate_zero, List.flatten_cons, List.flatten_nil, List.range_zero, gt_iff_lt, go_sem, setCells, setIn]
  refine vw_go rfl ?_; simp only [go_sem, setCells, setIn]
  refine ⟨_, _, call_rx [0, 0] Tryz.func61 (rI) rfl rfl rfl rfl rfl rfl rfl (by simp [lendAll, lendC, seek, fresh, nav, rcells, RT.cells, VV.cells, tabE_cons, tabS_cons, ev, take_map_len, sRow_r1, sRow_comp, sRow_clean, nRow_r1, nRow_comp, nRow_clean, lit]) rfl (by simp [rcells, RT.cells, CT.clean, T.clean, sRow_r1, sRow_comp, sRow_clean, nRow_r1, nRow_comp, nRow_clean, lit]) rfl rfl, ?_⟩
  simp only [runH, runX, go_sem, setCells, setIn]
  by_cases h0 : k < 0
  · rw [if_pos (.inl h0)]
    refine vw_seq ?_
    refine vw_go rfl ?_; simp only [h0, go_sem, setCells, setIn]
    refine vw_cond (t := true) rfl (fun _ => ?_) (fun h => nomatch h)
    refine vw_go rfl ?_; simp only [go_sem, setCells, setIn]
    exact vw_ret (r_then (e_ret (ret_of rfl rfl (by simp [RB]) rfl rfl)))
  obtain ⟨K, rfl⟩ : ∃ K : Nat, k = K := ⟨k.toNat, by omega⟩
  have rC := runs_40 (q.drop K) (by rw [List.length_drop]; omega) 62 Tryz.f62 (fun s => decide (¬ s = ⟨#[]⟩)) Tryz.func62 rfl rfl (fun x _ => runs_62 x)
  rw [Int.toNat_natCast]
  have d1 : (0:Int) ≤ (K : Int) := by omega
  have d2 : K ≤ 6 := by omega
  have e2 : List.take (6 - K) (List.drop K (q.map sRow)) = (q.drop K).map sRow := by
    rw [← List.map_drop, List.take_of_length_le (by rw [List.length_map, List.length_drop]; omega)]
  refine vw_seq ?_
  refine vw_go rfl ?_; simp only [h0, d1, hql, d2, Int.toNat_natCast, e2, range1, List.replicate_succ, List.replicate_zero, List.flatten_cons, List.flatten_nil, List.range_zero, gt_iff_lt, go_sem, setCells, setIn]
  generalize q.drop K = z at rC
  generalize z.any (fun s => decide (¬ s = ⟨#[]⟩)) = y at rC
  refine ⟨_, _, call_rx [0, 0] Tryz.func40 (rC) rfl rfl rfl rfl rfl rfl rfl (by simp [lendAll, lendC, seek, fresh, nav, rcells, RT.cells, VV.cells, tabE_cons, tabS_cons, ev, take_map_len, sRow_r1, sRow_comp, sRow_clean, nRow_r1, nRow_comp, nRow_clean]) rfl (by simp [rcells, RT.cells, CT.clean, T.clean, sRow_r1, sRow_comp, sRow_clean, nRow_r1, nRow_comp, nRow_clean]) rfl rfl, ?_⟩
  simp only [runH, runX, go_sem, setCells, setIn]
  cases y
  · rw [if_neg (by simp [h0])]
    refine vw_cond (t := false) rfl (fun h => nomatch h) (fun _ => ?_)
    refine vw_skip (n_then ?_)
    refine vw_go rfl ?_; simp only [go_sem, setCells, setIn]
    exact vw_ret (e_ret (ret_of rfl rfl (by simp [RB]) rfl rfl))
  · rw [if_pos rfl]
    refine vw_cond (t := true) rfl (fun _ => ?_) (fun h => nomatch h)
    refine vw_go rfl ?_; simp only [go_sem, setCells, setIn]
    exact vw_ret (r_then (e_ret (ret_of rfl rfl (by simp [RB]) rfl rfl)))
theorem runs_46 (p : List ByteArray) (w : List Int) (hp : p.length = 60) (b : Nat) (hb : b < 10) :
    Runs Tryz.prog 46 [.agg [.v (.list false 1 (p.map sRow)), .v (.list false 1 (w.map nRow))], .one (.v (.int .i64 b))] [.one (.v (.bool (decide ((clearF p b).1 = 6))))] [] := by
  refine runs_tab (tab := [(0, .agg [.c (.list false 1 (p.map sRow)), .c (.list false 1 (w.map nRow))]), (1, .c (.int .i64 b))]) (rts := []) (n := 9) (k := 3) Tryz.func46 rfl rfl (by simp) rfl (fun t => ?_) rfl ?_
  · rcases t with _ | _ | t <;> rfl
  have rF := runs_45 p w hp b hb
  rw [show decide ((clearF p b).1 = 6) = decide (fcF p b = 0) from decide_eq_decide.2 (fcF_free p b).symm]
  generalize fcF p b = k at rF
  refine vw_go rfl ?_; simp only [go_sem, setCells, setIn]
  refine vw_go rfl ?_; simp only [go_sem, setCells, setIn]
  refine ⟨_, _, call_rx [0, 0] Tryz.func45 (rF) rfl rfl rfl rfl rfl rfl rfl (by simp [lendAll, lendC, seek, fresh, nav, rcells, RT.cells, VV.cells, tabE_cons, tabS_cons, ev, take_map_len, sRow_r1, sRow_comp, sRow_clean, nRow_r1, nRow_comp, nRow_clean]) rfl (by simp [rcells, RT.cells, CT.clean, T.clean, sRow_r1, sRow_comp, sRow_clean, nRow_r1, nRow_comp, nRow_clean]) rfl rfl, ?_⟩
  simp only [runH, runX, go_sem, setCells, setIn]
  exact vw_ret (e_ret (ret_of rfl rfl (by simp [RB]) rfl rfl))
theorem runs_24 (p : List ByteArray) (w : List Int) (hp : p.length = 60) : Runs Tryz.prog 24 [.agg [.v (.list false 1 (p.map sRow)), .v (.list false 1 (w.map nRow))]] [.one (.v (.list true 1 ((freeTo p 10).map nRow)))] [] := by
  refine runs_tab (tab := [(0, .agg [.c (.list false 1 (p.map sRow)), .c (.list false 1 (w.map nRow))])]) (rts := []) (n := 18) (k := 2) Tryz.func24 rfl rfl (by simp) rfl (fun t => ?_) rfl ?_
  · rcases t with _ | t <;> rfl
  refine vw_go rfl ?_; simp only [go_sem, setCells, setIn]
  refine vw_go rfl ?_; simp only [range1, List.replicate_succ, List.replicate_zero, List.flatten_cons, List.flatten_nil, List.range_zero, gt_iff_lt, go_sem, setCells, setIn]
  refine vw_seq ?_
  refine vw_go rfl ?_; simp only [go_sem, setCells, setIn]
  refine vw_block ?_
  refine vw_loop_tab (α := Nat × List Int × List Path) (fun x => 10 - x.1) (fun x => ⟨tabE [(1, .ptr 2 [] 0 0 0), (3, .al 3 [] 0 1 0 x.2.1.length), (6, .c (.int .i64 x.1))], tabS [(2, some ⟨true, 2, [[.list false 1 (p.map sRow), .list false 1 (w.map nRow)]], []⟩), (3, some ⟨false, 1, x.2.1.map nRow, x.2.2⟩)], 4⟩)
    (fun x => x.1 ≤ 10 ∧ x.2.1 = freeTo p x.1) (x := (0, [], [])) ?round ?h0 ?hn
  case h0 => exact ⟨Nat.zero_le _, rfl⟩
  case hn =>
    refine norm_to [(2, 2), (65538, 3)] rfl ?_ ?_ <;> simp only [go_sem]
  rintro ⟨b, q, lg⟩ ⟨hb, hq⟩
  simp only at hb hq
  have hql := freeTo_len p b
  rw [← hq] at hql
  have bq : List.take q.length (q.map nRow) = q.map nRow := List.take_of_length_le (by simp)
  by_cases hc : (b : Int) < 10
  case neg =>
    obtain rfl : b = 10 := by omega
    rw [← hq]
    refine vw_go rfl ?_; simp only [hc, go_sem, setCells, setIn]
    refine vw_seq ?_
    refine vw_cond (t := false) rfl (fun h => nomatch h) (fun _ => ?_)
    refine vw_exit (x_then (x_then (x_block (n_then ?_))))
    refine vw_go rfl ?_; simp only [go_sem, setCells, setIn]
    exact vw_ret (e_ret (ret_by rfl rfl (by simp [RB]) rfl (by simp only [takeCs, takeC, go_sem, setCells, setIn])))
  have rF := runs_46 p w hp b (by omega)
  have hst : freeTo p (b + 1) = if (clearF p b).1 = 6 then q ++ [(b : Int)] else q := by rw [freeTo, ← hq]
  generalize (clearF p b).1 = n at rF hst
  have w1 : IntKind.wrap .i64 ((b:Int) + 1) = ((b + 1 : Nat) : Int) := by rw [wrap_i64 (by omega) (by omega)]; rfl
  refine vw_go rfl ?_; simp only [hc, go_sem, setCells, setIn]
  refine vw_seq ?_
  refine vw_cond (t := true) rfl (fun _ => ?_) (fun h => nomatch h)
  refine vw_skip (n_then ?_)
  refine vw_seq ?_
  refine vw_block ?_
  refine vw_go rfl ?_; simp only [go_sem, setCells, setIn]
  refine vw_go rfl ?_; simp only [go_sem, setCells, setIn]
  refine ⟨_, _, call_rx [0, 0] Tryz.func46 (rF) rfl rfl rfl rfl rfl rfl rfl (by simp [lendAll, lendC, seek, fresh, nav, rcells, RT.cells, VV.cells, tabE_cons, tabS_cons, ev, take_map_len, sRow_r1, sRow_comp, sRow_clean, nRow_r1, nRow_comp, nRow_clean]) rfl (by simp [rcells, RT.cells, CT.clean, T.clean, sRow_r1, sRow_comp, sRow_clean, nRow_r1, nRow_comp, nRow_clean]) rfl rfl, ?_⟩
  simp only [runH, runX, go_sem, setCells, setIn]
  by_cases h6 : n = 6
  · have q6 : decide (n = 6) = true := decide_eq_true h6
    rw [if_pos h6] at hst
    have B1 : ¬ (q.length + 1 + 1) * (8 + 1) > bigRow := big9 (by omega)
    refine vw_cond (t := true) (by simp [ev, tabE_cons, q6]) (fun _ => ?_) (fun h => nomatch h)
    refine vw_last rfl ?_; simp only [bq, B1, range1, List.replicate_succ, List.replicate_zero, List.flatten_cons, List.flatten_nil, List.range_zero, gt_iff_lt, List.drop_length, go_sem, setCells, setIn]
    refine (n_block (n_then ?_))
    refine vw_last rfl ?_; simp only [w1, go_sem, setCells, setIn]
    refine (n_then ?_)
    have e4 : q.map nRow ++ [[.int .i64 (b : Int)]] = (q ++ [(b : Int)]).map nRow := by simp [nRow]
    rw [e4]
    refine ⟨(b + 1, q ++ [(b : Int)], []), by simp only; omega, ⟨by simp only; omega, hst.symm⟩, ?_⟩
    have e5 : q.length + 1 = (q ++ [(b : Int)]).length := by simp
    rw [e5]
    generalize q ++ [(b : Int)] = q'
    refine norm_to [(2, 2), (199684, 3)] rfl ?_ ?_ <;> simp only [go_sem]
  · have q6 : decide (n = 6) = false := decide_eq_false h6
    rw [if_neg h6] at hst
    refine vw_cond (t := false) (by simp [ev, tabE_cons, q6]) (fun h => nomatch h) (fun _ => ?_)
    refine vw_skip (n_block (n_then ?_))
    refine vw_last rfl ?_; simp only [w1, go_sem, setCells, setIn]
    refine (n_then ?_)
    refine ⟨(b + 1, q, lg), by simp only; omega, ⟨by simp only; omega, hst.symm⟩, ?_⟩
    refine norm_to [(2, 2), (3, 3)] rfl ?_ ?_ <;> simp only [go_sem]
theorem runs_8 (p : List ByteArray) (w : List Int) (hp : p.length < 2 ^ 62) (hw : w.length < 2 ^ 62) : Runs Tryz.prog 8 [.agg [.v (.list false 1 (p.map sRow)), .v (.list false 1 (w.map nRow))]] [.one (.v (.list true 1 ((freeB p w).map nRow)))] [] := by
  refine runs_tab (tab := [(0, .agg [.c (.list false 1 (p.map sRow)), .c (.list false 1 (w.map nRow))])]) (rts := []) (n := 9) (k := 2) Tryz.func8 rfl rfl (by simp) rfl (fun t => ?_) rfl ?_
  · rcases t with _ | t <;> rfl
  have rO := runs_21 p w hp hw
  unfold freeB
  have h60 : chipOk p w = true → p.length = 60 ∧ w.length = 10 := fun hk => by
    unfold chipOk at hk
    simp only [Bool.and_eq_true, decide_eq_true_eq] at hk
    omega
  generalize chipOk p w = ok at rO h60
  refine vw_go rfl ?_; simp only [go_sem, setCells, setIn]
  refine vw_seq ?_
  refine vw_go rfl ?_; simp only [go_sem, setCells, setIn]
  refine ⟨_, _, call_rx [0] Tryz.func21 (rO) rfl rfl rfl rfl rfl rfl rfl (by simp [lendAll, lendC, seek, fresh, nav, rcells, RT.cells, VV.cells, tabE_cons, tabS_cons, ev, take_map_len, sRow_r1, sRow_comp, sRow_clean, nRow_r1, nRow_comp, nRow_clean]) rfl (by simp [rcells, RT.cells, CT.clean, T.clean, sRow_r1, sRow_comp, sRow_clean, nRow_r1, nRow_comp, nRow_clean]) rfl rfl, ?_⟩
  simp only [runH, runX, go_sem, setCells, setIn]
  cases ok
  · rw [if_neg (by simp)]
    refine vw_cond (t := true) (by simp [ev, tabE_cons]) (fun _ => ?_) (fun h => nomatch h)
    refine vw_go rfl ?_; simp only [go_sem, setCells, setIn]
    exact vw_ret (r_then (e_ret (ret_by rfl rfl (by simp [RB]) rfl (by simp only [takeCs, takeC, go_sem, setCells, setIn]))))
  rw [if_pos rfl]
  have rB := runs_24 p w (h60 rfl).1
  have hl := freeTo_len p 10
  generalize freeTo p 10 = q at rB hl
  have bq : List.take q.length (q.map nRow) = q.map nRow := List.take_of_length_le (by simp)
  refine vw_cond (t := false) (by simp [ev, tabE_cons]) (fun h => nomatch h) (fun _ => ?_)
  refine vw_skip (n_then ?_)
  refine vw_go rfl ?_; simp only [go_sem, setCells, setIn]
  refine ⟨_, _, call_rx [0] Tryz.func24 (rB) rfl rfl rfl rfl rfl rfl rfl (by simp [lendAll, lendC, seek, fresh, nav, rcells, RT.cells, VV.cells, tabE_cons, tabS_cons, ev, take_map_len, sRow_r1, sRow_comp, sRow_clean, nRow_r1, nRow_comp, nRow_clean]) rfl (by simp [rcells, RT.cells, CT.clean, T.clean, sRow_r1, sRow_comp, sRow_clean, nRow_r1, nRow_comp, nRow_clean]) rfl rfl, ?_⟩
  simp only [runH, runX, bq, go_sem, setCells, setIn]
  refine ⟨_, _, call_own [0] [(132098, none)] Tryz.func23 (runs_23 q (by omega)) rfl rfl rfl rfl rfl rfl rfl (by simp [takeCs, takeC, takeV, seek, fresh, nav, takenUp, rcells, RT.cells, VV.cells, tabE_cons, tabS_cons, ups_tab, ups_nil, ev, take_map_len, sRow_r1, sRow_comp, sRow_clean, nRow_r1, nRow_comp, nRow_clean, lit, bq, St.put, List.drop_length]) rfl (by simp [rcells, RT.cells, CT.clean, T.clean, sRow_r1, sRow_comp, sRow_clean, nRow_r1, nRow_comp, nRow_clean, lit, bq, St.put, List.drop_length]) rfl rfl, ?_⟩
  simp only [runH, runX, go_sem, setCells, setIn]
  exact vw_ret (e_ret (ret_by rfl rfl (by simp [RB]) rfl (by simp only [takeCs, takeC, go_sem, setCells, setIn])))
end Go.Proofs.YtkijdbljnefeaaaGreat
namespace Go.Proofs.YtkijdbljnefeaaaGreat
open Go.VM Go
set_option maxRecDepth 100000
attribute [-go_sem] runW_cons
attribute [local congr] vw_congr runV_congr runH_congr runW_congr runX_congr stuckV_congr stuckX_congr
set_option maxHeartbeats 1000000 in
theorem runs_22 (p : List ByteArray) (w : List Int) (hp : p.length = 60) (hw : w.length = 10) : Runs Tryz.prog 22 [.agg [.v (.list false 1 (p.map sRow)), .v (.list false 1 (w.map nRow))], .one (.v (.int .i64 (-1)))] [.one (.v (.int .i64 (nextF p w)))] [] := by
  refine runs_tab (tab := [(0, .agg [.c (.list false 1 (p.map sRow)), .c (.list false 1 (w.map nRow))]), (1, .c (.int .i64 (-1)))]) (rts := []) (n := 61) (k := 3) Tryz.func22 rfl rfl (by simp) rfl (fun t => ?_) rfl ?_
  · rcases t with _ | _ | t <;> rfl
  have rB := runs_24 p w hp
  have hmem := freeTo_mem p 10
  have hlen := freeTo_len p 10
  rw [nextF_opn]
  generalize freeTo p 10 = fl at rB hmem hlen
  generalize hG : opnGo p 10 0 = G
  have hG1 : -1 ≤ G := by rw [← hG]; exact opnGo_in p 10 0
  refine vw_go rfl ?_; simp only [go_sem, setCells, setIn]
  refine vw_seq ?_
  refine vw_go rfl ?_; simp only [go_sem, setCells, setIn]
  refine vw_block ?_
  refine vw_loop_tab (α := Nat) (fun x => 10 - x) (fun x => ⟨tabE [(1, .c (.int .i64 (-1))), (2, .ptr 3 [] 0 0 0), (10, .c (.int .i64 x))], tabS [(3, some ⟨true, 2, [[.list false 1 (p.map sRow), .list false 1 (w.map nRow)]], []⟩)], 4⟩)
    (fun x => x ≤ 10 ∧ opnGo p (10 - x) x = G) (x := 0) ?round ?h0 ?hn
  case h0 => exact ⟨Nat.zero_le _, hG⟩
  case hn =>
    refine norm_to [(3, 3)] rfl ?_ ?_ <;> simp only [go_sem]
  rintro b ⟨hb, hg⟩
  by_cases hc : (b : Int) < 10
  case pos =>
    obtain ⟨m, hm⟩ : ∃ m, 10 - b = m + 1 := ⟨9 - b, by omega⟩
    have hm2 : 10 - (b + 1) = m := by omega
    rw [hm, opnGo] at hg
    have rF := runs_45 p w hp b (by omega)
    have hfi := fcF_in p b
    generalize fcF p b = k at rF hg hfi
    have w1 : IntKind.wrap .i64 ((b:Int) + 1) = ((b + 1 : Nat) : Int) := by rw [wrap_i64 (by omega) (by omega)]; rfl
    refine vw_go rfl ?_; simp only [hc, go_sem, setCells, setIn]
    refine vw_seq ?_
    refine vw_cond (t := true) rfl (fun _ => ?_) (fun h => nomatch h)
    refine vw_skip (n_then ?_)
    refine vw_seq ?_
    refine vw_block ?_
    refine vw_go rfl ?_; simp only [go_sem, setCells, setIn]
    refine vw_go rfl ?_; simp only [go_sem, setCells, setIn]
    refine ⟨_, _, call_rx [0, 0] Tryz.func45 (rF) rfl rfl rfl rfl rfl rfl rfl (by simp [lendAll, lendC, seek, fresh, nav, rcells, RT.cells, VV.cells, tabE_cons, tabS_cons, ev, take_map_len, sRow_r1, sRow_comp, sRow_clean, nRow_r1, nRow_comp, nRow_clean]) rfl (by simp [rcells, RT.cells, CT.clean, T.clean, sRow_r1, sRow_comp, sRow_clean, nRow_r1, nRow_comp, nRow_clean]) rfl rfl, ?_⟩
    simp only [runH, runX, go_sem, setCells, setIn]
    by_cases h0 : 0 < k
    · rw [if_pos h0] at hg
      have q2 : ¬ (b : Int) = -1 := by omega
      have v1 : IntKind.wrap .i64 ((b:Int) * 6) = (b : Int) * 6 := wrap_i64 (by omega) (by omega)
      have v2 : IntKind.wrap .i64 ((b:Int) * 6 + k) = (b : Int) * 6 + k := wrap_i64 (by omega) (by omega)
      rw [if_pos (by omega), ← hg]
      refine vw_go rfl ?_; simp only [h0, q2, go_sem, setCells, setIn]
      refine vw_cond (t := true) rfl (fun _ => ?_) (fun h => nomatch h)
      refine vw_go rfl ?_; simp only [v1, v2, go_sem, setCells, setIn]
      refine vw_ret ?_
      repeat (first | refine r_then ?_ | refine r_block ?_)
      exact e_ret (ret_of rfl rfl (by simp [RB]) rfl rfl)
    · rw [if_neg h0, ← hm2] at hg
      refine vw_go rfl ?_; simp only [h0, go_sem, setCells, setIn]
      refine vw_cond (t := false) rfl (fun h => nomatch h) (fun _ => ?_)
      refine vw_skip (n_block (n_then ?_))
      refine vw_last rfl ?_; simp only [w1, go_sem, setCells, setIn]
      refine (n_then ?_)
      refine ⟨b + 1, by omega, ⟨by omega, hg⟩, ?_⟩
      refine norm_to [(3, 3)] rfl ?_ ?_ <;> simp only [go_sem]
  obtain rfl : b = 10 := by omega
  rw [Nat.sub_self, opnGo] at hg
  subst hg
  rw [if_neg (by decide)]
  refine vw_go rfl ?_; simp only [hc, go_sem, setCells, setIn]
  refine vw_seq ?_
  refine vw_cond (t := false) rfl (fun h => nomatch h) (fun _ => ?_)
  refine vw_exit (x_then (x_then (x_block (n_then ?_))))
  refine vw_go rfl ?_; simp only [go_sem, setCells, setIn]
  refine vw_seq ?_
  refine vw_go rfl ?_; simp only [go_sem, setCells, setIn]
  refine ⟨_, _, call_rx [0] Tryz.func24 (rB) rfl rfl rfl rfl rfl rfl rfl (by simp [lendAll, lendC, seek, fresh, nav, rcells, RT.cells, VV.cells, tabE_cons, tabS_cons, ev, take_map_len, sRow_r1, sRow_comp, sRow_clean, nRow_r1, nRow_comp, nRow_clean]) rfl (by simp [rcells, RT.cells, CT.clean, T.clean, sRow_r1, sRow_comp, sRow_clean, nRow_r1, nRow_comp, nRow_clean]) rfl rfl, ?_⟩
  simp only [runH, runX, go_sem, setCells, setIn]
  refine vw_block ?_
  generalize hBB : fl.foldl (bestS w) (-1) = BB
  have bfl : List.take fl.length (fl.map nRow) = fl.map nRow := List.take_of_length_le (by simp)
  refine vw_loop_tab (α := Nat × Int) (fun x => fl.length - x.1) (fun x => ⟨tabE [(1, .c (.int .i64 (-1))), (2, .ptr 3 [] 0 0 0), (7, .c (.int .i64 x.2)), (29, .al 4 [] 0 1 0 fl.length), (30, .c (.int .i64 fl.length)), (31, .c (.int .i64 x.1))], tabS [(3, some ⟨true, 2, [[.list false 1 (p.map sRow), .list false 1 (w.map nRow)]], []⟩), (4, some ⟨false, 1, fl.map nRow, []⟩)], 5⟩)
    (fun x => x.1 ≤ fl.length ∧ -1 ≤ x.2 ∧ x.2 < 10 ∧ (fl.drop x.1).foldl (bestS w) x.2 = BB) (x := (0, -1)) ?round2 ?h02 ?hn2
  case h02 => exact ⟨Nat.zero_le _, by decide, by decide, hBB⟩
  case hn2 =>
    refine norm_to [(3, 3), (132100, 4)] rfl ?_ ?_ <;> simp only [go_sem]
  rintro ⟨j, best⟩ ⟨hj, b1, b2, hbb⟩
  simp only at hj b1 b2 hbb
  by_cases hd : (j : Int) < fl.length
  case neg =>
    obtain rfl : j = fl.length := by omega
    rw [List.drop_length, List.foldl_nil] at hbb
    subst hbb
    refine vw_go rfl ?_; simp only [hd, go_sem, setCells, setIn]
    refine vw_seq ?_
    refine vw_cond (t := false) rfl (fun h => nomatch h) (fun _ => ?_)
    refine vw_exit (x_then (x_then (x_block (n_then ?_))))
    refine vw_seq ?_
    by_cases hn : best < 0
    · rw [if_pos hn]
      refine vw_go rfl ?_; simp only [hn, go_sem, setCells, setIn]
      refine vw_cond (t := true) rfl (fun _ => ?_) (fun h => nomatch h)
      refine vw_go rfl ?_; simp only [go_sem, setCells, setIn]
      exact vw_ret (r_then (e_ret (ret_of rfl rfl (by simp [RB]) rfl rfl)))
    · rw [if_neg hn]
      have w1 : IntKind.wrap .i64 (best * 6) = best * 6 := wrap_i64 (by omega) (by omega)
      refine vw_go rfl ?_; simp only [hn, go_sem, setCells, setIn]
      refine vw_cond (t := false) rfl (fun h => nomatch h) (fun _ => ?_)
      refine vw_skip (n_then ?_)
      refine vw_go rfl ?_; simp only [w1, go_sem, setCells, setIn]
      exact vw_ret (e_ret (ret_of rfl rfl (by simp [RB]) rfl rfl))
  obtain ⟨x, hx⟩ : ∃ x, fl[j]? = some x := ⟨_, List.getElem?_eq_getElem (by omega)⟩
  obtain ⟨b, rfl, hb10, _⟩ := hmem x (List.mem_of_getElem? hx)
  rw [drop_of hx, List.foldl_cons] at hbb
  unfold bestS at hbb
  rw [Int.toNat_natCast] at hbb
  have e0 : (0:Int) ≤ (j : Int) := by omega
  have e1 : (j : Int) < (fl.length : Int) := hd
  have e2 : j < fl.length := by omega
  have w1 : IntKind.wrap .i64 ((j:Int) + 1) = ((j + 1 : Nat) : Int) := by rw [wrap_i64 (by omega) (by omega)]; rfl
  refine vw_go rfl ?_; simp only [hd, go_sem, setCells, setIn]
  refine vw_seq ?_
  refine vw_cond (t := true) rfl (fun _ => ?_) (fun h => nomatch h)
  refine vw_skip (n_then ?_)
  refine vw_seq ?_
  refine vw_block ?_
  refine vw_go rfl ?_; simp only [e0, e1, e2, Int.toNat_natCast, getD_map_of hx, nRow, go_sem, setCells, setIn]
  obtain ⟨wb, hwb⟩ : ∃ x, w[b]? = some x := ⟨_, List.getElem?_eq_getElem (by omega)⟩
  have c0 : (0:Int) ≤ (b : Int) := by omega
  have c1 : (b : Int) < (w.length : Int) := by omega
  have c2 : b < w.length := by omega
  have q2 : ¬ (b : Int) = -1 := by omega
  rw [getD_of hwb] at hbb
  refine vw_drawA mixed rfl rfl ?_; intro A hAA
  have k3 : (A[3]?).bind (·.dst) = some 38 := by subst hAA; rfl
  have k6 : (A[6]?).bind (·.dst) = some 41 := by subst hAA; rfl
  by_cases hneg : best < 0
  case pos =>
    rw [if_pos (.inl hneg)] at hbb
    simp (maxSteps := 1000000) only [k3, k6, q2, hneg, go_sem, setCells, setIn, runW_step]
    refine ⟨by subst hAA; exact allOk_pre aheadPFLenN1 (by kernel_rfl) (Nat.le_of_ble_eq_true (by kernel_rfl)) (by kernel_rfl), ?_⟩
    refine vw_cond (t := true) rfl (fun _ => ?_) (fun h => nomatch h)
    refine vw_last rfl ?_; simp only [go_sem, setCells, setIn]
    refine (n_block (n_then ?_))
    refine vw_last rfl ?_; simp only [w1, go_sem, setCells, setIn]
    refine (n_then ?_)
    refine ⟨(j + 1, b), by simp only; omega, ⟨by simp only; omega, by simp only; omega, by simp only; omega, hbb⟩, ?_⟩
    refine norm_to [(3, 3), (4, 4)] rfl ?_ ?_ <;> simp only [go_sem]
  obtain ⟨B, rfl⟩ : ∃ B : Nat, best = B := ⟨best.toNat, by omega⟩
  obtain ⟨wB, hwB⟩ : ∃ x, w[B]? = some x := ⟨_, List.getElem?_eq_getElem (by omega)⟩
  rw [Int.toNat_natCast, getD_of hwB] at hbb
  have d0 : (0:Int) ≤ (B : Int) := by omega
  have d1 : (B : Int) < (w.length : Int) := by omega
  have d2 : B < w.length := by omega
  by_cases hlt : wb < wB
  · rw [if_pos (.inr hlt)] at hbb
    simp (maxSteps := 1000000) only [k3, k6, q2, hneg, c0, c1, c2, d0, d1, d2, Int.toNat_natCast, getD_map_of hwb, getD_map_of hwB, nRow, hlt, go_sem, setCells, setIn, runW_step]
    refine ⟨by subst hAA; exact allOk_pre aheadPFLenN1 (by kernel_rfl) (Nat.le_of_ble_eq_true (by kernel_rfl)) (by kernel_rfl), ?_⟩
    refine vw_cond (t := true) rfl (fun _ => ?_) (fun h => nomatch h)
    refine vw_last rfl ?_; simp only [go_sem, setCells, setIn]
    refine (n_block (n_then ?_))
    refine vw_last rfl ?_; simp only [w1, go_sem, setCells, setIn]
    refine (n_then ?_)
    refine ⟨(j + 1, b), by simp only; omega, ⟨by simp only; omega, by simp only; omega, by simp only; omega, hbb⟩, ?_⟩
    refine norm_to [(3, 3), (4, 4)] rfl ?_ ?_ <;> simp only [go_sem]
  · rw [if_neg (fun h => by rcases h with h | h; exact hneg h; exact hlt h)] at hbb
    simp (maxSteps := 1000000) only [k3, k6, q2, hneg, c0, c1, c2, d0, d1, d2, Int.toNat_natCast, getD_map_of hwb, getD_map_of hwB, nRow, hlt, go_sem, setCells, setIn, runW_step]
    refine ⟨by subst hAA; exact allOk_pre aheadPFLenN1 (by kernel_rfl) (Nat.le_of_ble_eq_true (by kernel_rfl)) (by kernel_rfl), ?_⟩
    refine vw_cond (t := false) rfl (fun h => nomatch h) (fun _ => ?_)
    refine vw_skip (n_block (n_then ?_))
    refine vw_last rfl ?_; simp only [w1, go_sem, setCells, setIn]
    refine (n_then ?_)
    refine ⟨(j + 1, B), by simp only; omega, ⟨by simp only; omega, b1, b2, hbb⟩, ?_⟩
    refine norm_to [(3, 3), (4, 4)] rfl ?_ ?_ <;> simp only [go_sem]
theorem runs_6 (p : List ByteArray) (w : List Int) (hp : p.length < 2 ^ 62) (hw : w.length < 2 ^ 62) : Runs Tryz.prog 6 [.agg [.v (.list false 1 (p.map sRow)), .v (.list false 1 (w.map nRow))]] [.one (.v (.int .i64 (nextC p w)))] [] := by
  refine runs_tab (tab := [(0, .agg [.c (.list false 1 (p.map sRow)), .c (.list false 1 (w.map nRow))])]) (rts := []) (n := 8) (k := 2) Tryz.func6 rfl rfl (by simp) rfl (fun t => ?_) rfl ?_
  · rcases t with _ | t <;> rfl
  have rO := runs_21 p w hp hw
  unfold nextC
  have h60 : chipOk p w = true → p.length = 60 ∧ w.length = 10 := fun hk => by
    unfold chipOk at hk
    simp only [Bool.and_eq_true, decide_eq_true_eq] at hk
    omega
  generalize chipOk p w = ok at rO h60
  refine vw_go rfl ?_; simp only [go_sem, setCells, setIn]
  refine vw_seq ?_
  refine vw_go rfl ?_; simp only [go_sem, setCells, setIn]
  refine ⟨_, _, call_rx [0] Tryz.func21 (rO) rfl rfl rfl rfl rfl rfl rfl (by simp [lendAll, lendC, seek, fresh, nav, rcells, RT.cells, VV.cells, tabE_cons, tabS_cons, ev, take_map_len, sRow_r1, sRow_comp, sRow_clean, nRow_r1, nRow_comp, nRow_clean]) rfl (by simp [rcells, RT.cells, CT.clean, T.clean, sRow_r1, sRow_comp, sRow_clean, nRow_r1, nRow_comp, nRow_clean]) rfl rfl, ?_⟩
  simp only [runH, runX, go_sem, setCells, setIn]
  cases ok
  · rw [if_neg (by simp)]
    refine vw_cond (t := true) (by simp [ev, tabE_cons]) (fun _ => ?_) (fun h => nomatch h)
    refine vw_go rfl ?_; simp only [go_sem, setCells, setIn]
    exact vw_ret (r_then (e_ret (ret_of rfl rfl (by simp [RB]) rfl rfl)))
  rw [if_pos rfl]
  have rN := runs_22 p w (h60 rfl).1 (h60 rfl).2
  refine vw_cond (t := false) (by simp [ev, tabE_cons]) (fun h => nomatch h) (fun _ => ?_)
  refine vw_skip (n_then ?_)
  refine vw_go rfl ?_; simp only [go_sem, setCells, setIn]
  refine ⟨_, _, call_rx [0, 0] Tryz.func22 (rN) rfl rfl rfl rfl rfl rfl rfl (by simp [lendAll, lendC, seek, fresh, nav, rcells, RT.cells, VV.cells, tabE_cons, tabS_cons, ev, take_map_len, sRow_r1, sRow_comp, sRow_clean, nRow_r1, nRow_comp, nRow_clean, lit]) rfl (by simp [rcells, RT.cells, CT.clean, T.clean, sRow_r1, sRow_comp, sRow_clean, nRow_r1, nRow_comp, nRow_clean, lit]) rfl rfl, ?_⟩
  simp only [runH, runX, go_sem, setCells, setIn]
  exact vw_ret (e_ret (ret_of rfl rfl (by simp [RB]) rfl rfl))
end Go.Proofs.YtkijdbljnefeaaaGreat
namespace Go.Proofs.YtkijdbljnefeaaaGreat
open Go.VM Go
set_option maxRecDepth 100000
attribute [-go_sem] runW_cons
attribute [local congr] vw_congr runV_congr runH_congr runW_congr runX_congr stuckV_congr stuckX_congr
def lenT : Nat → Int
  | 0 => 0
  | 1 => 1
  | 2 => 2
  | 3 => 2
  | 4 => 3
  | 5 => 3
  | _ => 3
theorem runs_102 (n : Nat) (hn : n ≤ 6) : Runs Tryz.prog 102 [.one (.v (.int .u64 (n : Int)))] [.one (.v (.int .i64 (lenT n)))] [] := by
  refine runs_tab (tab := [(0, .c (.int .u64 (n : Int)))]) (rts := []) (n := 25) (k := 1) Tryz.func102 rfl rfl (by simp) rfl (fun t => ?_) rfl ?_
  · rcases t with _ | t <;> rfl
  have h1 : ¬ (4294967296 : Int) ≤ (n : Int) := by omega
  have h2 : ¬ (65536 : Int) ≤ (n : Int) := by omega
  have h3 : ¬ (256 : Int) ≤ (n : Int) := by omega
  refine vw_go rfl ?_; simp only [go_sem, setCells, setIn]
  refine vw_seq ?_
  refine vw_go rfl ?_; simp only [h1, go_sem, setCells, setIn]
  refine vw_cond (t := false) rfl (fun h => nomatch h) (fun _ => ?_)
  refine vw_skip (n_then ?_)
  refine vw_seq ?_
  refine vw_go rfl ?_; simp only [h2, go_sem, setCells, setIn]
  refine vw_cond (t := false) rfl (fun h => nomatch h) (fun _ => ?_)
  refine vw_skip (n_then ?_)
  refine vw_seq ?_
  refine vw_go rfl ?_; simp only [h3, go_sem, setCells, setIn]
  refine vw_cond (t := false) rfl (fun h => nomatch h) (fun _ => ?_)
  refine vw_skip (n_then ?_)
  obtain rfl | rfl | rfl | rfl | rfl | rfl | rfl : n = 0 ∨ n = 1 ∨ n = 2 ∨ n = 3 ∨ n = 4 ∨ n = 5 ∨ n = 6 := by omega
  · (refine vw_go rfl ?_; simp only [go_sem, setCells, setIn])
    exact vw_ret (e_ret (ret_of rfl rfl (by simp [RB]) rfl rfl))
  · (refine vw_go rfl ?_; simp only [go_sem, setCells, setIn])
    exact vw_ret (e_ret (ret_of rfl rfl (by simp [RB]) rfl rfl))
  · (refine vw_go rfl ?_; simp only [go_sem, setCells, setIn])
    exact vw_ret (e_ret (ret_of rfl rfl (by simp [RB]) rfl rfl))
  · (refine vw_go rfl ?_; simp only [go_sem, setCells, setIn])
    exact vw_ret (e_ret (ret_of rfl rfl (by simp [RB]) rfl rfl))
  · (refine vw_go rfl ?_; simp only [go_sem, setCells, setIn])
    exact vw_ret (e_ret (ret_of rfl rfl (by simp [RB]) rfl rfl))
  · (refine vw_go rfl ?_; simp only [go_sem, setCells, setIn])
    exact vw_ret (e_ret (ret_of rfl rfl (by simp [RB]) rfl rfl))
  · (refine vw_go rfl ?_; simp only [go_sem, setCells, setIn])
    exact vw_ret (e_ret (ret_of rfl rfl (by simp [RB]) rfl rfl))
theorem runs_69 (n : Nat) (hn : n ≤ 6) : Runs Tryz.prog 69 [.one (.v (.int .u64 (n : Int)))] [.one (.v (.int .i64 (lenT n)))] [] := by
  refine runs_tab (tab := [(0, .c (.int .u64 (n : Int)))]) (rts := []) (n := 8) (k := 1) Tryz.func69 rfl rfl (by simp) rfl (fun t => ?_) rfl ?_
  · rcases t with _ | t <;> rfl
  refine vw_go rfl ?_; simp only [go_sem, setCells, setIn]
  refine vw_seq ?_
  refine vw_cond (t := false) rfl (fun h => nomatch h) (fun _ => ?_)
  refine vw_skip (n_then ?_)
  refine vw_go rfl ?_; simp only [go_sem, setCells, setIn]
  refine ⟨_, _, call_rd [0] Tryz.func102 (runs_102 n hn) rfl rfl rfl rfl rfl rfl rfl rfl rfl rfl rfl rfl rfl, ?_⟩
  simp only [runH, runX, go_sem, setCells, setIn]
  exact vw_ret (e_ret (ret_of rfl rfl (by simp [RB]) rfl rfl))
end Go.Proofs.YtkijdbljnefeaaaGreat
