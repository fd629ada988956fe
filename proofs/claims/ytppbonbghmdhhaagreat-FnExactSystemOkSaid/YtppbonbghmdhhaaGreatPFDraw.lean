/- Regions of open order with many operations: what is ahead of each given as a list, and checked. -/
import Derived.Test.YtppbonbghmdhhaaGreatPFBase
namespace Go.VM
open Go
def chkPre (pre : List (List Nat)) : Nat → List Oper → Bool
  | _, [] => true
  | k, o :: l => ((pre.getD k []).all fun i => (o.after.toList.filter fun e => Region.binds .any e).any fun e => (e.on == i) || (decide (e.on < k) && (pre.getD e.on []).contains i)) && chkPre pre (k + 1) l
theorem closeL_mem {acc : List (List Nat)} {o : Oper} {i : Nat} : i ∈ closeL acc o ↔ ∃ e, e ∈ o.after.toList.filter (fun e => Region.binds .any e) ∧ (i = e.on ∨ i ∈ acc.getD e.on []) := by
  unfold closeL
  rw [List.mem_eraseDups, List.mem_flatMap]
  simp only [List.mem_cons]
theorem chkPre_sub {pre : List (List Nat)} : ∀ (l : List Oper) (acc : List (List Nat)), chkPre pre acc.length l = true → (∀ j i, j < acc.length → i ∈ pre.getD j [] → i ∈ acc.getD j []) →
    ∀ j i, j < acc.length + l.length → i ∈ pre.getD j [] → i ∈ (precs l acc).getD j []
  | [], acc, _, h, j, i, hj, hi => h j i (by simpa using hj) hi
  | o :: l, acc, hc, h, j, i, hj, hi => by
    simp only [chkPre, Bool.and_eq_true, List.all_eq_true] at hc
    simp only [precs]
    refine chkPre_sub l (acc ++ [closeL acc o]) (by simpa using hc.2) (fun j i hj hi => ?_) j i (by simp at hj ⊢; omega) hi
    by_cases e : j < acc.length
    · rw [List.getD_eq_getElem?_getD, List.getElem?_append_left e, ← List.getD_eq_getElem?_getD]
      exact h j i e hi
    · obtain rfl : j = acc.length := by simp at hj; omega
      rw [List.getD_eq_getElem?_getD, List.getElem?_append_right (Nat.le_refl _), Nat.sub_self]
      simp only [List.getElem?_cons_zero, Option.getD_some]
      rw [closeL_mem]
      have := hc.1 i hi
      simp only [List.any_eq_true, Bool.or_eq_true, beq_iff_eq, Bool.and_eq_true, decide_eq_true_eq, List.contains_iff_mem] at this
      obtain ⟨e, he, h1 | ⟨h1, h2⟩⟩ := this
      · exact ⟨e, he, .inl h1.symm⟩
      · exact ⟨e, he, .inr (h e.on i h1 h2)⟩
theorem allOk_pre {l : List Oper} {its : List It} (pre : List (List Nat)) (h1 : chkPre pre 0 l = true) (h0 : its.length ≤ l.length) (h2 : pairsOk pre its = true) : allOk l its := by
  unfold allOk
  unfold pairsOk at h2 ⊢
  simp only [List.all_eq_true, Bool.or_eq_true, List.contains_iff_mem, List.mem_range] at h2 ⊢
  intro j hj i hi
  rcases h2 j hj i hi with h | h
  · exact .inl (chkPre_sub l [] h1 (fun j i hj => absurd hj (by simp)) j i (by simp; omega) h)
  · exact .inr h
/-- A region of open order, its list of operations named. -/
theorem vw_drawA {P : Program} {n K id : Nat} {l : List Oper} {y : Code} {Q : Exit → FS → Prop} {env : Nat → VV} {st : St} {nx : Nat} (hm : P.follows .mixedOrders = true) (hd : regOk n l = true) (he : edgesOk l.toArray = true)
    (h : ∀ A : Array Oper, A = l.toArray → runW P A nx 0 l env st [] (fun its env st => allOk l its ∧ VW P n K y Q ⟨env, st, nx + 65536⟩)) : VW P n K (.seq (.region id l.toArray true) y) Q ⟨env, st, nx⟩ :=
  vw_draw hm hd he (h _ rfl)
theorem runW_step (P : Program) (ops : Array Oper) (nx i : Nat) (o : Oper) (l : List Oper) (env : Nat → VV) (st : St) (acc : List It) (K : List It → (Nat → VV) → St → Prop) :
    runW P ops nx i (o :: l) env st acc K =
      match wantedV ops o env with
      | some true =>
        (match isCall o with
        | true => ∃ v u rd, OpAt P (nx + 1024 * i) o rd env st ⟨v, u⟩ ∧ runX P ops nx (i + 1) l (dstE env o.dst v) (st.ups u) (acc ++ [⟨o.dst, v, u, o.looksAt ops, rd⟩]) K
        | false => match vop P (nx + 1024 * i) o env st with
          | some e => runW P ops nx (i + 1) l (dstE env o.dst e.v) (st.ups e.ups) (acc ++ [⟨o.dst, e.v, e.ups, o.looksAt ops, readsOf env o⟩]) K
          | none => False)
      | some false => runW P ops nx (i + 1) l (dstE env o.dst (.tup [])) st (acc ++ [⟨o.dst, .tup [], [], o.looksAt ops, []⟩]) K
      | none => False := (rfl)
end Go.VM
