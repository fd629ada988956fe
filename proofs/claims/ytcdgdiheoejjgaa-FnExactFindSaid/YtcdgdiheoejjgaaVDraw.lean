/- Regions whose order is left open: operations that are apart may change places. -/
import Derived.Test.YtcdgdiheoejjgaaVLocal2
namespace Go.VM
set_option linter.unusedSimpArgs false
set_option linter.unusedVariables false

/-- Wherever what the operation looks at is so, it has that effect. -/
def OpAt (P : Program) (fid : Nat) (o : Oper) (rd : List Nat) (env : Nat → VV) (st : St) (e : Eff) : Prop :=
  ∀ env' st', (∀ t ∈ tmpsOf o, env' t = env t) → (∀ r ∈ rd, st' r = st r) → OpOk P fid o env' st' e

theorem vop_at {P : Program} {fid : Nat} {o : Oper} {env : Nat → VV} {st : St} {e : Eff} (h : vop P fid o env st = some e) : OpAt P fid o (readsOf env o) env st e :=
  fun env' st' he hs => vop_ok (by rw [vop_local he hs]; exact h)

/-- What an operation has done, and what it looked at. -/
structure It where
  dst : Option Tmp
  v : VV
  ups : Ups
  looks : List Tmp
  rd : List Nat

abbrev ES := (Nat → VV) × St
def It.app (x : It) (s : ES) : ES := (dstE s.1 x.dst x.v, s.2.ups x.ups)

def upRoots (u : Ups) : List Nat := u.map (·.1)

def sepIt (x y : It) : Bool :=
  (match x.dst with | some d => !y.looks.contains d && y.dst != some d | none => true) && (match y.dst with | some d => !x.looks.contains d | none => true) &&
  (upRoots x.ups).all (fun r => !y.rd.contains r && !(upRoots y.ups).contains r) && (upRoots y.ups).all (fun r => !x.rd.contains r)

structure Sep (x y : It) : Prop where
  d1 : ∀ d, x.dst = some d → d ∉ y.looks
  d2 : ∀ d, x.dst = some d → y.dst ≠ some d
  d3 : ∀ d, y.dst = some d → d ∉ x.looks
  r1 : ∀ r ∈ upRoots x.ups, r ∉ y.rd
  r2 : ∀ r ∈ upRoots x.ups, r ∉ upRoots y.ups
  r3 : ∀ r ∈ upRoots y.ups, r ∉ x.rd

theorem sepIt_sep {x y : It} (h : sepIt x y = true) : Sep x y := by
  simp only [sepIt, Bool.and_eq_true, List.all_eq_true] at h
  obtain ⟨⟨⟨h1, h2⟩, h3⟩, h4⟩ := h
  refine ⟨fun d hd => ?_, fun d hd => ?_, fun d hd => ?_, fun r hr => ?_, fun r hr => ?_, fun r hr => ?_⟩
  · rw [hd] at h1; simp at h1; exact h1.1
  · rw [hd] at h1; simp at h1; exact h1.2
  · rw [hd] at h2; simpa using h2
  · have := h3 r hr; simp at this; exact this.1
  · have := h3 r hr; simp at this; simpa [upRoots] using this.2
  · have := h4 r hr; simpa using this

theorem Sep.symm {x y : It} (h : Sep x y) : Sep y x :=
  ⟨h.d3, fun d hd e => h.d2 d e hd, h.d1, h.r3, fun r h1 h2 => h.r2 r h2 h1, h.r1⟩

theorem ups_out {st : St} {r : Nat} : ∀ {u : Ups}, r ∉ upRoots u → (st.ups u) r = st r := by
  intro u h
  exact ups_other (fun r' R' hm e => h (List.mem_map.2 ⟨(r', R'), hm, e⟩))

theorem ups_comm {u v : Ups} (h : ∀ r ∈ upRoots u, r ∉ upRoots v) (st : St) : (st.ups u).ups v = (st.ups v).ups u := by
  funext r
  by_cases hu : r ∈ upRoots u
  · rw [ups_out (h r hu)]
    exact (ups_congr (ups_out (h r hu)) u).symm
  · rw [ups_out (u := u) hu]
    exact ups_congr (ups_out hu) v

theorem Sep.comm {x y : It} (h : Sep x y) (s : ES) : x.app (y.app s) = y.app (x.app s) := by
  simp only [It.app]
  rw [Prod.mk.injEq]
  refine ⟨?_, (ups_comm h.r2 s.2).symm⟩
  funext t
  cases hx : x.dst with
  | none => rfl
  | some d =>
    cases hy : y.dst with
    | none => rfl
    | some e =>
      have hne : e ≠ d := fun q => h.d2 d hx (by rw [hy, q])
      simp only [dstE, setE]
      by_cases h1 : t = d
      · subst h1
        have : ¬ t = e := fun q => hne q.symm
        simp [this]
      · simp [h1]

/-- The items that are marked, one behind the other. -/
def foldS : List (Bool × It) → ES → ES
  | [], s => s
  | (b, x) :: l, s => foldS l (if b then x.app s else s)

theorem foldS_env {t : Nat} : ∀ {l k : List (Bool × It)} {s s' : ES}, l.map (·.2) = k.map (·.2) → s.1 t = s'.1 t → (∀ (i : Nat) (x y : Bool × It), l[i]? = some x → k[i]? = some y → x.1 ≠ y.1 → x.2.dst ≠ some t) → (foldS l s).1 t = (foldS k s').1 t
  | [], [], s, s', _, h, _ => h
  | [], _ :: _, _, _, h, _, _ => by simp at h
  | _ :: _, [], _, _, h, _, _ => by simp at h
  | (b, x) :: l, (b', x') :: k, s, s', hm, h, hd => by
    simp only [List.map_cons, List.cons.injEq] at hm
    obtain ⟨rfl, hm⟩ := hm
    simp only [foldS]
    refine foldS_env hm ?_ (fun i y z hy hz => hd (i + 1) y z (by simpa using hy) (by simpa using hz))
    have h0 := hd 0 (b, x) (b', x) rfl rfl
    cases b <;> cases b' <;> simp only [It.app, Bool.false_eq_true, if_false, if_true] at h0 ⊢
    · exact h
    · have := h0 (by simp)
      rw [h]; cases hx : x.dst with
      | none => rfl
      | some d => simp only [dstE]; rw [setE_ne]; intro e; exact this (by rw [hx, e])
    · have := h0 (by simp)
      rw [← h]; cases hx : x.dst with
      | none => rfl
      | some d => simp only [dstE]; rw [setE_ne]; intro e; exact this (by rw [hx, e])
    · cases hx : x.dst with
      | none => exact h
      | some d => simp only [dstE, setE]; split <;> first | rfl | exact h

theorem foldS_st {r : Nat} : ∀ {l k : List (Bool × It)} {s s' : ES}, l.map (·.2) = k.map (·.2) → s.2 r = s'.2 r → (∀ (i : Nat) (x y : Bool × It), l[i]? = some x → k[i]? = some y → x.1 ≠ y.1 → r ∉ upRoots x.2.ups) → (foldS l s).2 r = (foldS k s').2 r
  | [], [], s, s', _, h, _ => h
  | [], _ :: _, _, _, h, _, _ => by simp at h
  | _ :: _, [], _, _, h, _, _ => by simp at h
  | (b, x) :: l, (b', x') :: k, s, s', hm, h, hd => by
    simp only [List.map_cons, List.cons.injEq] at hm
    obtain ⟨rfl, hm⟩ := hm
    simp only [foldS]
    refine foldS_st hm ?_ (fun i y z hy hz => hd (i + 1) y z (by simpa using hy) (by simpa using hz))
    have h0 := hd 0 (b, x) (b', x) rfl rfl
    cases b <;> cases b' <;> simp only [It.app, Bool.false_eq_true, if_false, if_true] at h0 ⊢
    · exact h
    · rw [ups_out (h0 (by simp))]; exact h
    · rw [ups_out (h0 (by simp))]; exact h
    · exact ups_congr h _

/-- An item that is apart from all that follow may as well come last. -/
theorem foldS_last : ∀ {l : List (Bool × It)} {x : It} {s : ES}, (∀ y ∈ l, y.1 = true → Sep x y.2) → foldS l (x.app s) = x.app (foldS l s)
  | [], x, s, _ => rfl
  | (b, y) :: l, x, s, h => by
    simp only [foldS]
    cases b with
    | false => simp only [Bool.false_eq_true, if_false]; exact foldS_last (fun z hz => h z (List.mem_cons_of_mem _ hz))
    | true =>
      simp only [if_true]
      rw [← (h (true, y) (by simp) rfl).comm s]
      exact foldS_last (fun z hz => h z (List.mem_cons_of_mem _ hz))

end Go.VM
