/- Codes: what their propositions say, the machine does. -/
import Derived.Test.YthgfjbafhjkhnaaGreatZwDraw
namespace Go.Proofs.YthgfjbafhjkhnaaGreat.Zq
variable {C : CEnv} {M M' : Mp} {H H' : Heap} {w w' : World} {L L' : Loc} {ML ML' : Ml} {fr fr' : CFr} {a a' : Act} {ro : Option Nat} {n : Nat} {loc : List Nat}

/-! ### Joins -/
theorem jputS_get : ∀ {sl : List (Nat × Tag)} {x : TupP sl} {l : List (Nat × Option Sv)} {t : Nat} {s : Sv}, jgetS fr' sl = some x → cget (jputS sl x l) t = some s → cget fr'.l t = some s ∨ ((∀ p ∈ sl, p.1 ≠ t) ∧ cget l t = some s)
  | [], x, l, t, s, _, h => .inr ⟨fun p hp => by simp at hp, h⟩
  | (d, T) :: r, x, l, t, s, hg, h => by
    simp only [jgetS] at hg
    split at hg
    · rename_i v hv
      split at hg
      · rename_i y z h1 h2
        have hg := Option.some.inj hg
        subst hg
        simp only [jputS, cget] at h
        split at h
        · rename_i e; subst e
          simp at h; subst h
          left
          rw [hv]
          have : v = T.enc y := by
            unfold Tag.dec at h1
            unfold Tag.enc encC
            split at h1
            · rename_i cs
              split at h1
              · rename_i ha; rw [if_pos ha, ← T.ok _ _ h1]
              · simp at h1
            · simp at h1
            · split at h1
              · simp at h1
              · rename_i ha; rw [if_neg ha, ← T.ok _ _ h1]
          rw [this]
        · rename_i e
          rcases jputS_get (x := z) h2 h with h | ⟨h3, h4⟩
          · exact .inl h
          · exact .inr ⟨fun p hp => (List.mem_cons.1 hp).elim (fun h => by subst h; exact e) (h3 p), h4⟩
      · cases hg
    · cases hg

theorem jputL_len : ∀ {lo : List (Nat × Tag)} {x : TupP lo}, (jputL lo x L).length = L.length
  | [], _ => rfl
  | (i, T) :: r, x => by
    simp only [jputL]
    split
    · simp [jputL_len (lo := r)]
    · exact jputL_len (lo := r)
theorem jputL_get : ∀ {lo : List (Nat × Tag)} {x : TupP lo} {i n m q : Nat} {cs cs' ds : List Value}, jgetL L' lo = some x → L[i]? = some (n, cs) → L'[i]? = some (m, cs') → (jputL lo x L)[i]? = some (q, ds) →
    ((∃ p ∈ lo, p.1 = i) ∧ ds = cs' ∧ q = n + 1) ∨ ((∀ p ∈ lo, p.1 ≠ i) ∧ ds = cs ∧ q = n)
  | [], x, i, n, m, q, cs, cs', ds, _, h1, _, h3 => by
    simp only [jputL] at h3
    rw [h1] at h3; simp at h3
    exact .inr ⟨fun p hp => by simp at hp, h3.2.symm, h3.1.symm⟩
  | (j, T) :: r, x, i, n, m, q, cs, cs', ds, hg, h1, h2, h3 => by
    simp only [jgetL] at hg
    split at hg
    · rename_i mm cc hc
      split at hg
      · rename_i y z g1 g2
        have hg := Option.some.inj hg
        subst hg
        simp only [jputL] at h3
        by_cases e : j = i
        · subst e
          rw [h1] at h3
          simp only at h3
          rw [List.getElem?_set_self (by rw [jputL_len]; exact (List.getElem?_eq_some_iff.1 h1).1)] at h3
          rw [h2] at hc; simp at hc; obtain ⟨_, rfl⟩ := hc
          simp at h3
          exact .inl ⟨⟨(j, T), by simp, rfl⟩, by rw [← h3.2]; exact (T.ok _ _ g1).symm, h3.1.symm⟩
        · have h3' : (jputL r z L)[i]? = some (q, ds) := by
            split at h3
            · rw [List.getElem?_set_ne e] at h3; exact h3
            · exact h3
          rcases jputL_get g2 h1 h2 h3' with ⟨⟨p, hp, hpi⟩, h4⟩ | ⟨h4, h5⟩
          · exact .inl ⟨⟨p, by simp [hp], hpi⟩, h4⟩
          · exact .inr ⟨fun p hp => (List.mem_cons.1 hp).elim (fun h => by subst h; exact e) (h4 p), h5⟩
      · cases hg
    · cases hg

theorem keptL_ok : ∀ {lo : List (Nat × Tag)} {i : Nat} {L L' : Loc}, keptL lo i L L' = true → L.length ≤ L'.length ∧ ∀ (k n m : Nat) (cs cs' : List Value), L[k]? = some (n, cs) → L'[k]? = some (m, cs') → n = m ∨ ∃ p ∈ lo, p.1 = i + k
  | lo, i, [], L', _ => ⟨by simp, fun k n m cs cs' h => by simp at h⟩
  | lo, i, x :: r, [], h => by simp [keptL] at h
  | lo, i, (n, cs) :: r, (m, cs') :: r', h => by
    simp only [keptL, Bool.and_eq_true, Bool.or_eq_true, beq_iff_eq, List.any_eq_true] at h
    obtain ⟨h1, h2⟩ := keptL_ok h.2
    refine ⟨by simpa using h1, fun k p q ds ds' g1 g2 => ?_⟩
    cases k with
    | zero =>
      simp at g1 g2
      rcases h.1 with h | ⟨p, hp, he⟩
      · exact .inl (by omega)
      · exact .inr ⟨p, hp, by omega⟩
    | succ k =>
      rcases h2 k p q ds ds' (by simpa using g1) (by simpa using g2) with h | ⟨p, hp, he⟩
      · exact .inl h
      · exact .inr ⟨p, hp, by omega⟩

theorem cget_app : ∀ {x l : List (Nat × Option Sv)} {t : Nat}, (∀ p ∈ x, p.1 ≠ t) → cget (x ++ l) t = cget l t
  | [], l, t, _ => rfl
  | (i, v) :: r, l, t, h => by
    simp only [List.cons_append, cget]
    rw [if_neg (h (i, v) (by simp)), cget_app (fun p hp => h p (by simp [hp]))]
theorem cget_clr : ∀ {c : List Nat} {l : List (Nat × Option Sv)} {t : Nat} {s : Sv}, cget (c.map (fun t => (t, none)) ++ l) t = some s → t ∉ c ∧ cget l t = some s
  | [], l, t, s, h => ⟨by simp, h⟩
  | i :: r, l, t, s, h => by
    simp only [List.map_cons, List.cons_append, cget] at h
    split at h
    · simp at h
    · rename_i e
      obtain ⟨h1, h2⟩ := cget_clr h
      exact ⟨by simp [h1, Ne.symm e], h2⟩

theorem jputS_noloc : ∀ {sl : List (Nat × Tag)} {x : TupP sl} {l : List (Nat × Option Sv)} {t : Nat} {s : Sv}, ((∃ i off, s = .lp i off) ∨ ∃ i m, s = .ls i m) → (∃ q ∈ sl, q.1 = t) → ¬ cget (jputS sl x l) t = some s
  | [], _, _, _, _, _, ⟨q, hq, _⟩ => by simp at hq
  | (d, T) :: r, x, l, t, s, hs, ⟨q, hq, he⟩ => by
    simp only [jputS, cget]
    split
    · rename_i e
      rcases hs with ⟨i, off, rfl⟩ | ⟨i, m, rfl⟩ <;> simp
    · rename_i e
      refine jputS_noloc hs ⟨q, ?_, he⟩
      rcases List.mem_cons.1 hq with rfl | hq
      · exact absurd he e
      · exact hq
theorem jputS_skip : ∀ {sl : List (Nat × Tag)} {x : TupP sl} {l : List (Nat × Option Sv)} {t : Nat} {s : Sv}, (∀ p ∈ sl, p.1 ≠ t) → cget (jputS sl x l) t = some s → cget l t = some s
  | [], _, _, _, _, _, h => h
  | (d, T) :: r, x, l, t, s, hn, h => by
    simp only [jputS, cget] at h
    rw [if_neg (hn (d, T) (by simp))] at h
    exact jputS_skip (fun p hp => hn p (by simp [hp])) h
theorem jputS_suf : ∀ (sl : List (Nat × Tag)) (x : TupP sl) (clr : List Nat) (l : List (Nat × Option Sv)), ∃ news, jputS sl x (clr.map (fun t => (t, none)) ++ l) = news ++ l
  | [], _, clr, l => ⟨_, rfl⟩
  | (d, T) :: r, x, clr, l => by
    obtain ⟨news, h⟩ := jputS_suf r x.2 clr l
    exact ⟨(d, some (.v (T.enc x.1))) :: news, by simp only [jputS, h, List.cons_append]⟩

/-- Locals' places are bounded. -/
theorem SvR.less {N : Ml} {s : Sv} {u u0 : Value} (h0 : SvR M ML s u0) (h : SvR M' (ML ++ N) s u) : SvR M' ML s u := by
  cases s with
  | v v => exact h
  | lp i off =>
    obtain ⟨e, h1, h2⟩ := h
    obtain ⟨e0, h3, _⟩ := h0
    have := (List.getElem?_eq_some_iff.1 h3).1
    exact ⟨e, by rw [List.getElem?_append_left this] at h1; exact h1, h2⟩
  | ls i m =>
    obtain ⟨e, h1, h2⟩ := h
    obtain ⟨e0, h3, _⟩ := h0
    have := (List.getElem?_eq_some_iff.1 h3).1
    exact ⟨e, by rw [List.getElem?_append_left this] at h1; exact h1, h2⟩

theorem jexit_ok {J : Jn} {k : J.S → Prop} (h : jexit J fr fr' L L' k) : ∃ x : J.S, J.ok fr fr' L L' = true ∧ jgetS fr' J.sl = some x.1 ∧ jgetL L' J.lo = some x.2 ∧ k x := by
  unfold jexit at h
  split at h
  · rename_i hok
    split at h
    · rename_i y z h1 h2; exact ⟨(y, z), hok, h1, h2, h⟩
    · exact h.elim
  · exact h.elim

/-- What is known behind a join. -/
theorem join_ok {J : Jn} {x : J.S} (f : FS M ML fr a.tmps) (l : LR M H L ML w) (b : Behind M H L ML w fr a M' H' L' ML' w' fr' a') (hok : J.ok fr fr' L L' = true) (h1 : jgetS fr' J.sl = some x.1) (h2 : jgetL L' J.lo = some x.2) :
    Behind M H L ML w fr a M' H' (J.loc L x) ML w' (J.fr fr x) a' := by
  unfold Jn.ok at hok
  simp only [Bool.and_eq_true] at hok
  obtain ⟨⟨hk1, hk2⟩, hk3⟩ := hok
  obtain ⟨hn, news, hnews⟩ := b.suf
  obtain ⟨N, hN⟩ := b.mlx
  obtain ⟨kl1, kl2⟩ := keptL_ok hk2
  have hnw : fr'.l.take (fr'.l.length - fr.l.length) = news := by rw [hnews]; simp
  rw [hnw] at hk1
  have hdst : ∀ p ∈ news, (∃ q ∈ J.sl, q.1 = p.1) ∨ p.1 ∈ J.clr := fun p hp => by
    have := List.all_eq_true.1 hk1 p hp
    simpa using this
  have lre : ∀ i : Nat, i < L.length → ∃ n cs m cs' q ds, L[i]? = some (n, cs) ∧ L'[i]? = some (m, cs') ∧ (J.loc L x)[i]? = some (q, ds) ∧ ds = cs' ∧ n ≤ q ∧ (q = n → cs' = cs) := fun i hi => by
    have hi2 : i < L'.length := by omega
    have hi3 : i < (J.loc L x).length := by unfold Jn.loc; rw [jputL_len]; exact hi
    obtain ⟨⟨n0, cs0⟩, e1⟩ : ∃ p, L[i]? = some p := ⟨_, List.getElem?_eq_getElem hi⟩
    obtain ⟨⟨m0, cs0'⟩, e2⟩ : ∃ p, L'[i]? = some p := ⟨_, List.getElem?_eq_getElem hi2⟩
    obtain ⟨⟨q, ds⟩, e3⟩ : ∃ p, (J.loc L x)[i]? = some p := ⟨_, List.getElem?_eq_getElem hi3⟩
    refine ⟨_, _, _, _, _, _, e1, e2, e3, ?_⟩
    obtain ⟨r1, r2⟩ := b.rel.2 i _ _ _ _ e1 e2
    rcases jputL_get h2 e1 e2 e3 with ⟨_, g2, g3⟩ | ⟨g1, g2, g3⟩
    · exact ⟨g2, by omega, fun e => by omega⟩
    · have hv : n0 = m0 := by
        rcases kl2 i _ _ _ _ e1 e2 with h | ⟨p, hp, he⟩
        · exact h
        · exact absurd (by omega) (g1 p hp)
      have := r2 hv.symm
      exact ⟨by rw [g2, this], by omega, fun _ => this⟩
  refine ⟨⟨b.st.st, fun i e hi => b.st.mx i e (by rw [hN, List.getElem?_append_left (List.getElem?_eq_some_iff.1 hi).1]; exact hi)⟩, ⟨?_, fun i e m cs hi hL => ?_, fun i j e e' hne hi hj => ?_, fun i e hi => ?_⟩, ⟨by rw [b.fs.size]; exact hn, fun t s hs => ?_⟩, ⟨?_, fun i n cs m cs' hL hL' => ?_⟩, ⟨rfl, ?_⟩, ⟨[], by simp⟩, b.defers⟩
  · unfold Jn.loc; rw [jputL_len]; exact l.len
  · have hiL : i < L.length := by rw [← l.len]; exact (List.getElem?_eq_some_iff.1 hi).1
    obtain ⟨n0, cs0, m0, cs0', q, ds, a1, a2, a3, a4, _, _⟩ := lre i hiL
    rw [hL] at a3; simp at a3
    obtain ⟨_, rfl⟩ := a3
    subst a4
    exact b.lr.loc i e m0 _ (by rw [hN, List.getElem?_append_left (List.getElem?_eq_some_iff.1 hi).1]; exact hi) a2
  · exact b.lr.sep1 i j e e' hne (by rw [hN, List.getElem?_append_left (List.getElem?_eq_some_iff.1 hi).1]; exact hi) (by rw [hN, List.getElem?_append_left (List.getElem?_eq_some_iff.1 hj).1]; exact hj)
  · exact b.lr.sep2 i e (by rw [hN, List.getElem?_append_left (List.getElem?_eq_some_iff.1 hi).1]; exact hi)
  · unfold Jn.fr at hs
    have key : ∀ s, cget fr'.l t = some s → (∃ u0, SvR M ML s u0) → SvR M' ML s (a'.tmps.getD t undef) := fun s hc ⟨u0, h0⟩ => by
      have := b.fs.get t s hc
      rw [hN] at this
      exact h0.less this
    rcases jputS_get h1 hs with h | ⟨h, h'⟩
    · -- one of the join's slots, or one that was known before
      cases s with
      | v v => exact b.fs.get t _ h
      | lp i off =>
        -- a place in a local: it was known before
        rcases Classical.em (∃ q ∈ J.sl, q.1 = t) with hq | hq
        · exact absurd hs (jputS_noloc (.inl ⟨i, off, rfl⟩) hq)
        · have h' := jputS_skip (fun p hp e => hq ⟨p, hp, e⟩) hs
          obtain ⟨g1, g2⟩ := cget_clr h'
          exact key _ h ⟨_, f.get t _ g2⟩
      | ls i m =>
        rcases Classical.em (∃ q ∈ J.sl, q.1 = t) with hq | hq
        · exact absurd hs (jputS_noloc (.inr ⟨i, m, rfl⟩) hq)
        · have h' := jputS_skip (fun p hp e => hq ⟨p, hp, e⟩) hs
          obtain ⟨g1, g2⟩ := cget_clr h'
          exact key _ h ⟨_, f.get t _ g2⟩
    · obtain ⟨g1, g2⟩ := cget_clr h'
      have hc : cget fr'.l t = some s := by
        rw [hnews, cget_app fun p hp e => ?_]
        · exact g2
        · rcases hdst p hp with ⟨q, hq, he⟩ | hc
          · exact h q hq (he.trans e)
          · exact g1 (e ▸ hc)
      exact key s hc ⟨_, f.get t s g2⟩
  · unfold Jn.loc; rw [jputL_len]; exact Nat.le_refl _
  · have hi := (List.getElem?_eq_some_iff.1 hL).1
    obtain ⟨n0, cs0, m0, cs0', q, ds, a1, a2, a3, a4, a5, a6⟩ := lre i hi
    rw [hL] at a1; simp at a1; obtain ⟨rfl, rfl⟩ := a1
    rw [hL'] at a3; simp at a3; obtain ⟨rfl, rfl⟩ := a3
    exact ⟨a5, fun e => by rw [a4]; exact a6 e⟩
  · exact jputS_suf J.sl x.1 J.clr fr.l

end Go.Proofs.YthgfjbafhjkhnaaGreat.Zq
