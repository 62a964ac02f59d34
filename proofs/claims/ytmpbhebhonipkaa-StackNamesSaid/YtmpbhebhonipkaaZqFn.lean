/- Functions: what the evaluator answers, the call answers. -/
import Derived.Test.YtmpbhebhonipkaaZqCode
namespace Go.Proofs.Ytmpbhebhonipkaa.Zq
variable {P : Program} {E : Env} {M : Mp} {H H' : Heap} {w : World} {fr fr' : AFr} {a : Act}

/-- What is asked of the functions that are told from outside. -/
def ExtOk (P : Program) (E : Env) : Prop :=
  ∀ f x, E.ext f = some x → CallOk P (fun g args H => if g = f then x args H else none)

theorem result_ok (hE : E.Ok P) (h : HR M H w) (hf : FR M fr a.tmps) {g : ResultVar → Sem Value} (g1 : ∀ t, g (.tmp t) = pure (a.tmps.getD t undef)) (g2 : ∀ b t, g (.cell b t) = (do loadVar t (← asAddr (a.tmps.getD b undef))))
    {r : ResultVar} {v : Value} (hr : aResult E fr H r = some v) : ∃ v', (g r).run P w = .ok v' w ∧ VR M v v' := by
  cases r with
  | tmp t => exact ⟨_, by rw [g1]; rfl, hf.get t v hr⟩
  | cell b t =>
    simp only [aResult] at hr
    obtain ⟨p, h1, h2⟩ := some_bind hr
    have hp := hf.get b p h1
    unfold aLoad at h2
    split at h2
    · obtain ⟨ti, ht, h3⟩ := some_bind h2
      obtain ⟨cs, h4, h5⟩ := some_bind h3
      obtain ⟨e, he, hq⟩ := hp.of_ptr
      obtain ⟨u, k1, k2⟩ := loadVar_ok hE h ht he h4 h5
      exact ⟨u, by rw [g2]; simp [hq, asAddr, k1], k2⟩
    · simp at h2

theorem results_ok (hE : E.Ok P) (h : HR M H w) (hf : FR M fr a.tmps) {g : ResultVar → Sem Value} (g1 : ∀ t, g (.tmp t) = pure (a.tmps.getD t undef)) (g2 : ∀ b t, g (.cell b t) = (do loadVar t (← asAddr (a.tmps.getD b undef)))) : ∀ {rs : List ResultVar} {vs : List Value}, aResultL E fr H rs = some vs →
    ∃ us : List Value, (rs.mapM g).run P w = .ok us w ∧ VL M vs us
  | [], vs, hr => by simp [aResultL] at hr; subst hr; exact ⟨[], by simp, .nil M⟩
  | r :: rs, vs, hr => by
    simp only [aResultL] at hr
    obtain ⟨v, h1, h2⟩ := some_bind hr
    obtain ⟨us, h3, h4⟩ := some_bind h2
    simp at h4; subst h4
    obtain ⟨v', k1, k2⟩ := result_ok hE h hf g1 g2 h1
    obtain ⟨us', k3, k4⟩ := results_ok hE h hf g1 g2 h3
    exact ⟨v' :: us', by simp only [List.mapM_cons, Sem.run_bind, k1, Result.andThen_ok, k3, Sem.run_pure], .cons k2 k4⟩

theorem tupleOf_ok {vs us : List Value} (h : VL M vs us) : VR M (tupleOf vs) (if h : us.toArray.size = 1 then us.toArray[0] else .tuple us.toArray) := by
  have hl := h.1
  unfold tupleOf
  split
  · rename_i v
    obtain ⟨u, us', rfl, hu, ht⟩ := h.of_cons
    have := ht.of_nil; subst this
    simpa using hu
  · rename_i hne
    have : ¬ us.toArray.size = 1 := by
      intro h1
      simp at h1
      rw [← hl] at h1
      obtain ⟨x, hx⟩ := List.length_eq_one_iff.1 h1
      exact hne x hx
    rw [dif_neg this]
    exact h.tuple

theorem look_enterL : ∀ (l : List Value) (i t : Nat), look (enterL i l) t = if i ≤ t then l[t - i]? else none
  | [], i, t => by simp [enterL, look]
  | v :: r, i, t => by
    simp only [enterL, look, look_enterL r (i + 1) t]
    by_cases h : i = t
    · subst h; simp
    · rw [if_neg h]
      by_cases h2 : i ≤ t
      · rw [if_pos h2, if_pos (by omega)]
        obtain ⟨q, hq⟩ : ∃ q, t - i = q + 1 := ⟨t - i - 1, by omega⟩
        rw [hq, show t - (i + 1) = q by omega]; rfl
      · rw [if_neg h2, if_neg (by omega)]

theorem enter_ok {fn : Func} {args args' : List Value} (h : VL M args args') : FR M (enterFr fn args) (args'.toArray ++ Array.replicate (fn.ntmps - args'.toArray.size) undef) := by
  refine ⟨by simp [enterFr, h.1], fun t v hv => ?_⟩
  unfold AFr.get enterFr at hv
  simp only [look_enterL, Nat.zero_le, if_true, Nat.sub_zero] at hv
  have ht : t < args.length := (List.getElem?_eq_some_iff.1 hv).1
  have ht' : t < args'.length := by rw [← h.1]; exact ht
  have hg : (args'.toArray ++ Array.replicate (fn.ntmps - args'.toArray.size) undef)[t]? = some args'[t] := by
    rw [Array.getElem?_append_left (by simpa using ht')]
    simp [ht']
  rw [Array.getD_eq_getD_getElem?, hg]
  exact h.2 t v _ hv (List.getElem?_eq_getElem ht')

theorem fn_ok (hE : E.Ok P) (hX : ExtOk P E) : ∀ k, CallOk P (aFn E k) := by
  intro k
  induction k with
  | zero => intro f args H res H' h; simp [aFn] at h
  | succ k ih =>
    intro f args H res H' h
    simp only [aFn] at h
    split at h
    · rename_i x hx
      have := hX f x hx f args H res H' (by simpa using h)
      exact this
    · obtain ⟨fn, h1, h2⟩ := some_bind h
      obtain ⟨c, h3, h4⟩ := some_bind h2
      obtain ⟨q1, q2⟩ := hE.fn f fn h1
      refine ⟨⟨fn, q1, by simp [h3], q2⟩, fun n M w args' hr hv => ?_⟩
      obtain ⟨e, fr', H2, g1, g2⟩ := code_ok (ro := none) hE ih k c (E.hint f) (enterFr fn args) H (Value × Heap) _ _ h4
      refine callsIn_of_wp q1 h3 trivial (wpIn_mono (g2.2 n M _ w hr (enter_ok hv)) ?_)
      rintro x a' w' ⟨r1, M', r2, r3, r4⟩
      have hres : ∀ (hg : ((aResultL E fr' H2 fn.results.toList).bind fun vs => some (tupleOf vs, H2)) = some (res, H')),
          a'.defers = [] ∧ ∃ v, (results fn a'.tmps).run P w' = .ok v w' ∧ ∃ v' M'', Ending.returned v = .returned v' ∧ Stp M H w M'' H' w' ∧ VR M'' res v' := by
        intro hg
        obtain ⟨vs, k1, k2⟩ := some_bind hg
        simp at k2; obtain ⟨rfl, rfl⟩ := k2
        obtain ⟨us, l1, l2⟩ := results_ok (g := fun r => match r with | .tmp t => pure (a'.tmps.getD t undef) | .cell b t => do loadVar t (← asAddr (a'.tmps.getD b undef))) hE r2.hr r3 (fun _ => rfl) (fun _ _ => rfl) k1
        refine ⟨r4, _, ?_, _, M', rfl, r2, tupleOf_ok l2⟩
        unfold results
        rw [Array.mapM_eq_mapM_toList]
        simp only [Sem.run_bind, Sem.run_map, Sem.run_pure]
        erw [l1]
        rfl
      cases e with
      | normal =>
        cases x <;> first | exact r1.elim | skip
        exact hres g1
      | ret =>
        cases x <;> first | exact r1.elim | skip
        exact hres g1
      | exit i => simp at g1

end Go.Proofs.Ytmpbhebhonipkaa.Zq
