/- Codes: what their propositions say, the machine does; second part. -/
import Derived.Test.YthgfjbafhjkhnaaGreatZwCode
namespace Go.Proofs.YthgfjbafhjkhnaaGreat.Zq
variable {C : CEnv} {M M' : Mp} {H H' : Heap} {w w' : World} {L L' : Loc} {ML ML' : Ml} {fr fr' : CFr} {a a' : Act} {ro : Option Nat} {n : Nat} {loc : List Nat}

/-- A code's way: from whatever is alike, it comes to what K says. -/
def Goes (C : CEnv) (ro : Option Nat) (c : Code) (fr : CFr) (L : Loc) (H : Heap) (K : CK) : Prop :=
  ∀ (n : Nat) (M : Mp) (ML : Ml) (a : Act) (w : World), HR M H w → LR M H L ML w → FS M ML fr a.tmps →
    c.wpIn (Fw ro) n C.P (fun x a' w' => ∃ e fr' L' H' M' ML', K e fr' L' H' ∧ ExR e x ∧ Behind M H L ML w fr a M' H' L' ML' w' fr' a') a w

theorem Goes.mono {c : Code} {K K' : CK} (h : Goes C ro c fr L H K) (hk : ∀ e fr' L' H', K e fr' L' H' → K' e fr' L' H') : Goes C ro c fr L H K' :=
  fun n M ML a w h1 h2 h3 => wpIn_mono (h n M ML a w h1 h2 h3) fun _ _ _ ⟨e, fr', L', H', M', ML', q1, q2⟩ => ⟨e, fr', L', H', M', ML', hk _ _ _ _ q1, q2⟩

theorem LR.same {L2 : Loc} (l : LR M H L ML w) (hl : L2.length = L.length) (hc : ∀ (i n m : Nat) (cs cs' : List Value), L[i]? = some (n, cs) → L2[i]? = some (m, cs') → cs' = cs) : LR M H L2 ML w := by
  refine ⟨by rw [hl]; exact l.len, fun i e m cs hi hL => ?_, l.sep1, l.sep2⟩
  have hi' : i < L.length := by rw [← l.len]; exact (List.getElem?_eq_some_iff.1 hi).1
  obtain ⟨⟨n0, cs0⟩, e1⟩ : ∃ p, L[i]? = some p := ⟨_, List.getElem?_eq_getElem hi'⟩
  have := hc i n0 m cs0 cs e1 hL
  subst this
  exact l.loc i e n0 _ hi e1
theorem FS.same {fr2 : CFr} (f : FS M ML fr a.tmps) (hn : fr2.n = fr.n) (hc : ∀ t s, cget fr2.l t = some s → cget fr.l t = some s) : FS M ML fr2 a.tmps :=
  ⟨by rw [hn]; exact f.size, fun t s h => f.get t s (hc t s h)⟩

theorem jputS_any : ∀ {sl : List (Nat × Tag)} {x y : TupP sl} {l l' : List (Nat × Option Sv)} {t : Nat} {s : Sv}, (∀ s, (∀ p ∈ sl, p.1 ≠ t) → cget l t = some s → cget l' t = some s) → cget (jputS sl x l) t = some s → (∃ p ∈ sl, p.1 = t) ∨ cget (jputS sl y l') t = some s
  | [], x, y, l, l', t, s, h, hc => .inr (h s (fun p hp => by simp at hp) hc)
  | (d, T) :: r, x, y, l, l', t, s, h, hc => by
    simp only [jputS, cget] at hc ⊢
    by_cases e : d = t
    · exact .inl ⟨(d, T), by simp, e⟩
    · rw [if_neg e] at hc
      rcases jputS_any (y := y.2) (fun s hn => h s fun p hp => (List.mem_cons.1 hp).elim (fun h' => by subst h'; exact e) (hn p)) hc with ⟨p, hp, he⟩ | h'
      · exact .inl ⟨p, by simp [hp], he⟩
      · exact .inr (by rw [if_neg e]; exact h')

theorem jputL_pass : ∀ {lo : List (Nat × Tag)} {x : TupP lo} {L : Loc} {i : Nat}, (∀ p ∈ lo, p.1 ≠ i) → (jputL lo x L)[i]? = L[i]?
  | [], _, _, _, _ => rfl
  | (j, T) :: r, x, L, i, hn => by
    have ih := jputL_pass (lo := r) (x := x.2) (L := L) (i := i) fun p hp => hn p (by simp [hp])
    simp only [jputL]
    split
    · rw [List.getElem?_set_ne (hn (j, T) (by simp))]; exact ih
    · exact ih
theorem jputL_ver : ∀ {lo : List (Nat × Tag)} {x : TupP lo} {L : Loc} {i n m : Nat} {cs cs' : List Value}, L[i]? = some (n, cs) → (jputL lo x L)[i]? = some (m, cs') → (∃ p ∈ lo, p.1 = i) → m = n + 1
  | [], _, _, _, _, _, _, _, _, _, ⟨p, hp, _⟩ => by simp at hp
  | (j, T) :: r, x, L, i, n, m, cs, cs', h1, h2, ⟨p, hp, he⟩ => by
    simp only [jputL] at h2
    by_cases e : j = i
    · subst e
      rw [h1] at h2
      simp only at h2
      rw [List.getElem?_set_self (by rw [jputL_len]; exact (List.getElem?_eq_some_iff.1 h1).1)] at h2
      simp at h2; exact h2.1.symm
    · have h2' : (jputL r x.2 L)[i]? = some (m, cs') := by
        split at h2
        · rw [List.getElem?_set_ne e] at h2; exact h2
        · exact h2
      refine jputL_ver h1 h2' ⟨p, ?_, he⟩
      rcases List.mem_cons.1 hp with rfl | hp
      · exact absurd he e
      · exact hp
theorem jgetL_lt : ∀ {lo : List (Nat × Tag)} {x : TupP lo} {L : Loc}, jgetL L lo = some x → ∀ p ∈ lo, p.1 < L.length
  | [], _, _, _, p, hp => by simp at hp
  | (j, T) :: r, x, L, h, p, hp => by
    simp only [jgetL] at h
    split at h
    · rename_i m cs hc
      split at h
      · rename_i y z g1 g2
        rcases List.mem_cons.1 hp with rfl | hp
        · exact (List.getElem?_eq_some_iff.1 hc).1
        · exact jgetL_lt g2 p hp
      · cases h
    · cases h
theorem jputS_pass : ∀ {sl : List (Nat × Tag)} {x : TupP sl} {l : List (Nat × Option Sv)} {t : Nat}, (∀ p ∈ sl, p.1 ≠ t) → cget (jputS sl x l) t = cget l t
  | [], _, _, _, _ => rfl
  | (d, T) :: r, x, l, t, hn => by
    simp only [jputS, cget]
    rw [if_neg (hn (d, T) (by simp)), jputS_pass (fun p hp => hn p (by simp [hp]))]
theorem jputS_at : ∀ {sl : List (Nat × Tag)} {x : TupP sl} {l l' : List (Nat × Option Sv)} {t : Nat} {s : Sv}, (∃ p ∈ sl, p.1 = t) → cget (jputS sl x l) t = some s → cget (jputS sl x l') t = some s
  | [], _, _, _, _, _, ⟨p, hp, _⟩, _ => by simp at hp
  | (d, T) :: r, x, l, l', t, s, ⟨p, hp, he⟩, h => by
    simp only [jputS, cget] at h ⊢
    by_cases e : d = t
    · rw [if_pos e] at h ⊢; exact h
    · rw [if_neg e] at h ⊢
      refine jputS_at ⟨p, ?_, he⟩ h
      rcases List.mem_cons.1 hp with rfl | hp
      · exact absurd he e
      · exact hp

theorem jputL_cell : ∀ {lo : List (Nat × Tag)} {x y : TupP lo} {L : Loc} {i n m : Nat} {cs cs' : List Value}, (jputL lo x (jputL lo y L))[i]? = some (n, cs) → (jputL lo x L)[i]? = some (m, cs') → (∃ L2 : Loc, jgetL L2 lo = some x) → cs' = cs := by
  intro lo x y L i n m cs cs' h1 h2 ⟨L2, h3⟩
  have hi : i < L.length := by have := (List.getElem?_eq_some_iff.1 h2).1; rw [jputL_len] at this; exact this
  have hb : ∀ p ∈ lo, p.1 < L2.length := jgetL_lt h3
  rcases Classical.em (∃ p ∈ lo, p.1 = i) with hq | hq
  · obtain ⟨p, hp, he⟩ := hq
    have hi2 : i < L2.length := by rw [← he]; exact hb p hp
    obtain ⟨⟨a, ds⟩, e1⟩ : ∃ q, L2[i]? = some q := ⟨_, List.getElem?_eq_getElem hi2⟩
    obtain ⟨⟨a1, ds1⟩, e2⟩ : ∃ q, L[i]? = some q := ⟨_, List.getElem?_eq_getElem hi⟩
    obtain ⟨⟨a2, ds2⟩, e3⟩ : ∃ q, (jputL lo y L)[i]? = some q := ⟨_, List.getElem?_eq_getElem (by rw [jputL_len]; exact hi)⟩
    rcases jputL_get h3 e2 e1 h2 with ⟨_, g, _⟩ | ⟨g, _⟩
    · rcases jputL_get h3 e3 e1 h1 with ⟨_, g', _⟩ | ⟨g', _⟩
      · rw [g, g']
      · exact absurd he (g' p hp)
    · exact absurd he (g p hp)
  · have hn : ∀ p ∈ lo, p.1 ≠ i := fun p hp e => hq ⟨p, hp, e⟩
    rw [jputL_pass hn, jputL_pass hn] at h1
    rw [jputL_pass hn] at h2
    rw [h1] at h2; simp at h2; exact h2.2.symm
theorem head_loc {J : Jn} {s s' : J.S} (h : jgetL L' J.lo = some s'.2) : ∀ (i n m : Nat) (cs cs' : List Value), (J.loc (J.loc L s) s')[i]? = some (n, cs) → (J.loc L s')[i]? = some (m, cs') → cs' = cs :=
  fun _ _ _ _ _ h1 h2 => jputL_cell h1 h2 ⟨L', h⟩
theorem head_rel {J : Jn} (s : J.S) : LRel L (J.loc L s) := by
  refine ⟨by unfold Jn.loc; rw [jputL_len]; exact Nat.le_refl _, fun i n cs m cs' h1 h2 => ?_⟩
  unfold Jn.loc at h2
  rcases Classical.em (∃ p ∈ J.lo, p.1 = i) with hq | hq
  · have := jputL_ver h1 h2 hq
    exact ⟨by omega, fun e => by omega⟩
  · rw [jputL_pass (fun p hp e => hq ⟨p, hp, e⟩), h1] at h2
    simp at h2; exact ⟨by omega, fun _ => h2.2.symm⟩

/-- The head of a loop, from round to round. -/
theorem head_fr {J : Jn} {s s' : J.S} : ∀ t v, cget (J.fr fr s').l t = some v → cget (J.fr (J.fr fr s) s').l t = some v := by
  intro t v h
  unfold Jn.fr at h ⊢
  simp only at h ⊢
  rcases Classical.em (∃ p ∈ J.sl, p.1 = t) with hq | hq
  · exact jputS_at hq h
  · have hn : ∀ p ∈ J.sl, p.1 ≠ t := fun p hp e => hq ⟨p, hp, e⟩
    have h1 := jputS_skip hn h
    rw [jputS_pass hn]
    obtain ⟨g1, g2⟩ := cget_clr h1
    rw [cget_app fun p hp e => ?_, jputS_pass hn]
    · exact h1
    · simp at hp; obtain ⟨c, hc, rfl⟩ := hp; exact g1 (e ▸ hc)

theorem jK_ok {J : Jn} {j : J.S → Heap → Prop} {K : CK} {e : Ex} (h : jK J fr L j K e fr' L' H') : (e = .normal ∧ jexit J fr fr' L L' fun x => j x H') ∨ (e ≠ .normal ∧ K e fr' L' H') := by
  unfold jK at h
  cases e with
  | normal => exact .inl ⟨rfl, h⟩
  | exit i => exact .inr ⟨by simp, h⟩
  | ret => exact .inr ⟨by simp, h⟩

/-- Ways that meet. -/
theorem join_goes {c : Code} {J : Jn} {B : J.S → Heap → Prop} {K : CK} (h : Goes C ro c fr L H (jK J fr L B K)) (hB : ∀ x H', B x H' → K .normal (J.fr fr x) (J.loc L x) H') : Goes C ro c fr L H K := by
  intro n M ML a w h1 h2 h3
  refine wpIn_mono (h n M ML a w h1 h2 h3) ?_
  rintro x a' w' ⟨e, fr', L', H', M', ML', q1, q2, q3⟩
  rcases jK_ok q1 with ⟨rfl, hj⟩ | ⟨hne, hk⟩
  · obtain ⟨y, g1, g2, g3, g4⟩ := jexit_ok hj
    exact ⟨.normal, _, _, H', M', ML, hB y H' g4, q2, join_ok h3 h2 q3 g1 g2 g3⟩
  · exact ⟨e, fr', L', H', M', ML', hk, q2, q3⟩

theorem cV_get {x : Operand} {v : Value} (f : FS M ML fr a.tmps) (h : opV fr x = some v) : VR M v (a.eval x) := cV_ok f h

theorem rounds_mono' {F : Fence} {c : Code} {P : Program} {Q Q' : Exit → Act → World → Prop} (hq : ∀ x a w, Q x a w → Q' x a w) (m : Nat) (a : Act) (w : World) (h : Code.roundsIn F n P c Q m a w) : Code.roundsIn F n P c Q' m a w := rounds_mono hq m a w h

/-- A frame without locals, as the record of a loop keeps it. -/
theorem cVals_ok {tmps : Array Value} {m : Nat} : ∀ {l : List (Nat × Option Sv)} {l' : List (Nat × Option Value)}, cVals l = some l' → ∀ t v, look l' t = some v → cget l t = some (.v v)
  | [], l', h, t, v, hv => by simp [cVals] at h; subst h; simp [look] at hv
  | (i, none) :: r, l', h, t, v, hv => by
    simp only [cVals] at h
    split at h
    · rename_i q hq
      simp at h; subst h
      simp only [look] at hv
      simp only [cget]
      split at hv
      · simp at hv
      · rename_i hi; rw [if_neg hi]; exact cVals_ok (tmps := tmps) (m := m) hq t v hv
    · simp at h
  | (i, some (.v x)) :: r, l', h, t, v, hv => by
    simp only [cVals] at h
    split at h
    · rename_i q hq
      simp at h; subst h
      simp only [look] at hv
      simp only [cget]
      split at hv
      · rename_i hi; rw [if_pos hi]; simp at hv; rw [hv]
      · rename_i hi; rw [if_neg hi]; exact cVals_ok (tmps := tmps) (m := m) hq t v hv
    · simp at h
  | (i, some (.lp _ _)) :: r, l', h, t, v, hv => by simp [cVals] at h
  | (i, some (.ls _ _)) :: r, l', h, t, v, hv => by simp [cVals] at h

theorem cVals_get : ∀ {l : List (Nat × Option Sv)} {l' : List (Nat × Option Value)}, cVals l = some l' → ∀ t s, cget l t = some s → ∃ v, s = .v v ∧ look l' t = some v
  | [], l', h, t, s, hs => by simp [cget] at hs
  | (i, none) :: r, l', h, t, s, hs => by
    simp only [cVals] at h
    split at h
    · rename_i q hq
      simp at h; subst h
      simp only [cget] at hs
      simp only [look]
      split at hs
      · simp at hs
      · rename_i hi; rw [if_neg hi]; exact cVals_get hq t s hs
    · simp at h
  | (i, some (.v x)) :: r, l', h, t, s, hs => by
    simp only [cVals] at h
    split at h
    · rename_i q hq
      simp at h; subst h
      simp only [cget] at hs
      simp only [look]
      split at hs
      · rename_i hi; rw [if_pos hi]; simp at hs; exact ⟨x, hs.symm, rfl⟩
      · rename_i hi; rw [if_neg hi]; exact cVals_get hq t s hs
    · simp at h
  | (i, some (.lp _ _)) :: r, l', h, t, s, hs => by simp [cVals] at h
  | (i, some (.ls _ _)) :: r, l', h, t, s, hs => by simp [cVals] at h

theorem jputA_ok : ∀ {sl : List (Nat × Tag)} {x : Tup (sl.map (·.2))} {args' : List Value} {l : List (Nat × Option Sv)} {k : Nat} {tmps : Array Value}, (∀ p ∈ sl, p.1 < k) → FS M [] ⟨k, l⟩ tmps → VL M (encs (sl.map (·.2)) x) args' →
    args'.length = sl.length ∧ FS M [] ⟨k, jputA sl x l⟩ (((sl.map (·.1)).zip args').foldl (fun tmps x => tmps.setIfInBounds x.1 x.2) tmps)
  | [], x, args', l, k, tmps, _, hf, hv => by
    have := hv.of_nil; subst this
    exact ⟨rfl, hf⟩
  | (t, T) :: r, x, args', l, k, tmps, hk, hf, hv => by
    obtain ⟨u, us, rfl, hu, ht⟩ := hv.of_cons
    have hf2 : FS M [] ⟨k, (t, some (.v (T.enc x.1))) :: l⟩ (tmps.setIfInBounds t u) := hf.put (d := t) (hk (t, T) (by simp)) (s := .v (T.enc x.1)) hu
    obtain ⟨g1, g2⟩ := jputA_ok (sl := r) (x := x.2) (fun p hp => hk p (by simp [hp])) hf2 ht
    exact ⟨by simp [g1], g2⟩

theorem RFX_out {es : List Ex} {e : Ex} {K : Ex → Prop} (h : RFX es e K) : K e := by
  induction es with
  | nil => exact h.elim
  | cons x r ih => rcases h with ⟨rfl, h⟩ | h; exact h; exact ih h
theorem LR.empty {w : World} : LR M H [] [] w := ⟨rfl, fun i e m cs hi => by simp at hi, fun i j e e' _ hi => by simp at hi, fun i e hi => by simp at hi⟩

/-- A ROUND: the body's proposition. -/
theorem round_ok {asg body : Code} {h : Hnt} {J : Jn} {l : Nat} {k : Nat} {fl : List (Nat × Option Value)} {fs : List (Nat × Option Sv)} {hb : Hint} {x : Tup (J.sl.map (·.2))} {H1 : Heap} {kk : Value → Heap → Prop}
    (iha : ∀ (ro : Option Nat) (h : Hnt) (fr : CFr) (L : Loc) (H : Heap) (K : CK), comp C loc asg h fr L H K → Goes C ro asg fr L H K)
    (ihb : ∀ (ro : Option Nat) (h : Hnt) (fr : CFr) (L : Loc) (H : Heap) (K : CK), comp C loc body h fr L H K → Goes C ro body fr L H K)
    (hk : ∀ p ∈ J.sl, p.1 < k)
    (lb : LoopState → Option Ex → ABlk) (hlb : lb = fun st pend => .loop st pend ⟨k, fl⟩ (J.sl.map (·.1)) asg body hb)
    (fsr : ∀ t s, cget fs t = some s → ∃ v, s = .v v ∧ look fl t = some v)
    (hc : H1[l]? = some (lb .ready none) ∧ comp C loc asg .leaf ⟨k, jputA J.sl x fs⟩ [] H1 fun e fr2 L2 H2 => match e with
      | .normal => REQ (H2[l]? = some (lb .ready none)) (comp C loc body h fr2 L2 (H2.set l (lb .busy none)) fun e _ _ H3 => RK lb l kk e H3)
      | _ => False) : EVY C.P l (encs (J.sl.map (·.2)) x) H1 kk := by
  subst hlb
  obtain ⟨hl1, hc⟩ := hc
  intro n M w args' en hr hva hen
  obtain ⟨L, b1, b2, b3, b4, b5, b6, b7⟩ := hr.blk _ _ _ hen hl1
  have f0 : FS M [] ⟨k, fs⟩ L.tmps := ⟨b4.size, fun t s hs => by
    obtain ⟨v, rfl, hv⟩ := fsr t s hs
    exact b4.get t v hv⟩
  obtain ⟨p1, p2⟩ := jputA_ok hk f0 hva
  refine ⟨L, b1, by rw [p1]; have := congrArg List.length b5; simpa using this.symm, ?_⟩
  have hfold : (L.params.zip args'.toArray).foldl (fun tmps (t, a) => tmps.setIfInBounds t a) L.tmps = ((J.sl.map (·.1)).zip args').foldl (fun tmps x => tmps.setIfInBounds x.1 x.2) L.tmps := by
    rw [← Array.foldl_toList, Array.toList_zip, b5]
  rw [hfold, b6, b7]
  refine roundIn_of_wpIn (F := Fence.wide) trivial (wpIn_mono (iha (some en.blk) _ _ _ _ _ hc n M [] _ w hr .empty p2) ?_)
  rintro x1 a1 w1 ⟨e1, fr2, L2, H2, M1, ML1, q1, r1, q3⟩
  cases e1 with
  | exit i => exact q1.elim
  | ret => exact q1.elim
  | normal =>
    cases x1 <;> first | exact r1.elim | skip
    obtain ⟨hl2, hc2⟩ := q1
    have s1 := q3.st.st
    have hen1 := s1.ext _ _ hen
    obtain ⟨L1, c1, c2, c3, c4, c5, c6, c7⟩ := s1.hr.blk _ _ _ hen1 hl2
    have hlt1 := (Array.getElem?_eq_some_iff.1 c1).1
    have hH1 : l < H2.length := (List.getElem?_eq_some_iff.1 hl2).1
    have s2 := Stp.setBlk (k' := .loop .busy none ⟨k, fl⟩ (J.sl.map (·.1)) asg body hb) (o' := .loop { L1 with state := .busy }) s1.hr hl2 hen1 (by unfold writB; rw [hl2]; trivial) (by unfold writB; rw [List.getElem?_set_self hH1]; trivial)
      ⟨{ L1 with state := .busy }, by simp [hlt1], rfl, c3, c4, c5, c6, c7⟩
    refine ⟨{ w1 with heap := w1.heap.setIfInBounds en.blk (.loop { L1 with state := .busy }) }, ?_, ?_⟩
    · have hg := run_getLoop (P := C.P) c1
      have hs' := run_setLoop (P := C.P) c1
      simp only [Instr.beginRound, Sem.run_bind, hg, Result.andThen_ok, hs', c2, Sem.run_pure]
    · refine wpIn_mono (ihb (some en.blk) _ _ _ _ _ hc2 n M1 ML1 a1 _ s2.hr (q3.lr.step s2) (q3.fs.step s2.ext)) ?_
      rintro x2 a2 w2 ⟨e2, fr3, L3, H3, M2, ML2, ⟨hl3, hk3⟩, t1, t3⟩
      have u3 := t3.st.st
      have hen2 := u3.ext _ _ hen1
      obtain ⟨L2', d1, d2, d3, d4, d5, d6, d7⟩ := u3.hr.blk _ _ _ hen2 hl3
      have hlt2 := (Array.getElem?_eq_some_iff.1 d1).1
      have hH2 : l < H3.length := (List.getElem?_eq_some_iff.1 hl3).1
      have s12 : Stp M H1 w M2 H3 w2 := ((q3.st.trans (s2.toLSt ML1)).trans t3.st).st.toStp fun i e hi => by simp at hi
      have fin : ∀ (s : LoopState) (pe : Option Ex) (j : Option Code), PendR pe j → Stp M H1 w M2 (H3.set l (.loop s pe ⟨k, fl⟩ (J.sl.map (·.1)) asg body hb)) { w2 with heap := w2.heap.setIfInBounds en.blk (.loop { L2' with state := s, pending := j }) } := fun s pe j hp =>
        s12.trans (Stp.setBlk u3.hr hl3 hen2 (by unfold writB; rw [hl3]; trivial) (by unfold writB; rw [List.getElem?_set_self hH2]; trivial)
          ⟨{ L2' with state := s, pending := j }, by simp [hlt2], rfl, hp, d4, d5, d6, d7⟩)
      have hend : ∀ j : Option Code, (Instr.endRound en.blk j).run C.P w2 = .ok (.bool j.isNone) { w2 with heap := w2.heap.setIfInBounds en.blk (.loop { L2' with state := if j.isNone then .ready else .done, pending := j }) } := fun j => by
        have hg := run_getLoop (P := C.P) d1
        have hs' := run_setLoop (P := C.P) d1
        simp only [Instr.endRound, Sem.run_bind, hg, Result.andThen_ok, hs', Sem.run_pure]
      cases e2 with
      | normal =>
        cases x2 <;> first | exact t1.elim | skip
        exact ⟨_, _, hend none, _, _, M2, _, rfl, fin _ none none trivial, .bool _, hk3⟩
      | ret =>
        cases x2 <;> first | exact t1.elim | skip
        exact ⟨_, _, hend (some .ret), _, _, M2, _, rfl, fin _ (some .ret) (some .ret) trivial, .bool _, hk3⟩
      | exit i =>
        cases x2 <;> first | exact t1.elim | skip
        rename_i i2
        have t1 : i = i2 := t1
        subst t1
        exact ⟨_, _, hend (some (.exit i)), _, _, M2, _, rfl, fin _ (some (.exit i)) (some (.exit i)) rfl, .bool _, hk3⟩

set_option maxHeartbeats 2000000 in
/-- A LOOP OVER A FUNCTION. -/
theorem range2_ok {g : Operand} {ps : Array Tmp} {asg body : Code} {h : Hnt} {J : Jn} {f : FuncId} {xs ys : Array Value} {fl : List (Nat × Option Value)} {K : CK}
    (iha : ∀ (ro : Option Nat) (h : Hnt) (fr : CFr) (L : Loc) (H : Heap) (K : CK), comp C loc asg h fr L H K → Goes C ro asg fr L H K)
    (ihb : ∀ (ro : Option Nat) (h : Hnt) (fr : CFr) (L : Loc) (H : Heap) (K : CK), comp C loc body h fr L H K → Goes C ro body fr L H K)
    {es : List Ex} (hj : J.sl.map (·.1) = ps.toList) (h1 : opV fr g = some (.func (.func f) xs ys)) (hfl : cVals fr.l = some fl) (hk : ∀ p ∈ J.sl, p.1 < fr.n)
    (hc : RF C.P (J.sl.map (·.2)) f xs.toList ys.toList H (fun lb x H1 k => comp C loc asg .leaf ⟨fr.n, jputA J.sl x fr.l⟩ [] H1 fun e fr2 L2 H2 => match e with
          | .normal => REQ (H2[H.length]? = some (lb .ready none)) (comp C loc body h fr2 L2 (H2.set H.length (lb .busy none)) fun e _ _ H3 => k e H3)
          | _ => False) fun e H' => RFX es e fun x => K x fr [] H') (hr : HR M H w) (hf : FS M [] fr a.tmps) :
    (Code.rangeFunc g ps asg body).wpIn (Fw none) n C.P (fun x a' w' => ∃ e H' M', K e fr [] H' ∧ ExR e x ∧ Stp M H w M' H' w' ∧ FS M' [] fr a'.tmps ∧ Marks w w' a.defers a'.defers) a w := by
  have fsr : ∀ t s, cget fr.l t = some s → ∃ v, s = .v v ∧ look fl t = some v := cVals_get hfl
  let lb : LoopState → Option Ex → ABlk := fun st pend => .loop st pend ⟨fr.n, fl⟩ (J.sl.map (·.1)) asg body .leaf
  have hev := hc lb fun x H1 k hx => round_ok (hb := .leaf) (k := fr.n) (fl := fl) (fs := fr.l) (J := J) iha ihb hk lb rfl fsr hx
  refine wpIn_rangeFunc fun fn _ => ?_
  have hfv := cV_ok hf h1
  obtain ⟨us, ws, hfe, hu, hw⟩ : ∃ us ws, a.eval g = .func (.func f) us ws ∧ VL M xs.toList us.toList ∧ VL M ys.toList ws.toList := by
    generalize hq : a.eval g = q at hfv
    cases hfv with
    | func hx hy gx gy =>
      exact ⟨_, _, rfl, ⟨by simpa using hx, fun i x u hx hu => gx i x u (by simpa using hx) (by simpa using hu)⟩, ⟨by simpa using hy, fun i x u hx hu => gy i x u (by simpa using hx) (by simpa using hu)⟩⟩
  have s1 := Stp.hidden hr (.deferred (some []))
  let L0 : Loop := { state := .ready, pending := none, fn, tmps := a.tmps, params := ps, assign := asg, body, defers := w.heap.size }
  let en : Ent := ⟨w.heap.size + 1, 0, false, 0, 0, 0⟩
  have hw1s : (w.alloc (.deferred (some []))).heap.size = w.heap.size + 1 := by simp
  have hfr0 : FR M ⟨fr.n, fl⟩ a.tmps := ⟨hf.size, fun t v hv => hf.get t _ (cVals_ok (tmps := a.tmps) (m := 0) hfl t v hv)⟩
  have s2 := Stp.newBlk (o := .loop L0) (k := lb .ready none) s1.hr en (by rw [hw1s]) ⟨L0, by
      show ((w.alloc (.deferred (some []))).heap.push _)[w.heap.size + 1]? = _
      rw [Array.getElem?_push, if_pos (by rw [hw1s])], rfl, trivial, hfr0.mono (Ext.app M [some en]), hj.symm, rfl, rfl⟩
  have s12 := s1.trans s2
  have hdef : ((w.alloc (.deferred (some []))).alloc (.loop L0)).heap[w.heap.size]? = some (.deferred (some [])) := by
    show (((w.heap.push _).push _))[w.heap.size]? = _
    rw [Array.getElem?_push, if_neg (by simp), Array.getElem?_push, if_pos rfl]
  obtain ⟨⟨fng, q1, q2, q3⟩, q4⟩ := hev
  have hargs : VL (M ++ [some en]) (xs.toList ++ [.func (.yield H.length) #[] #[]] ++ ys.toList) (us.toList ++ [.func (.yield (w.heap.size + 1)) #[] #[]] ++ ws.toList) :=
    ((hu.mono s2.ext).append (.cons (.yield (get_new hr en)) (.nil _))).append (hw.mono s2.ext)
  have hcall := q4 (n - 1) (M ++ [some en]) _ _ s2.hr hargs
  have hbn : fng.body.isNone = false := by cases hb : fng.body <;> simp_all
  refine ⟨w.heap.size + 1, [{ target := .collected w.heap.size, args := #[] }], (w.alloc (.deferred (some []))).alloc (.loop L0), { target := .fn (.func f) ws, args := us ++ #[Value.func (.yield (w.heap.size + 1)) #[] #[]] }, (w.alloc (.deferred (some []))).alloc (.loop L0), f, (us.toList ++ [Value.func (.yield (w.heap.size + 1)) #[] #[]] ++ ws.toList).toArray, (w.alloc (.deferred (some []))).alloc (.loop L0), ?_, ?_, fun _ _ => trivial, ?_, by simp [Fw, Fence.wide], (callsIn_round hcall).mono ?_⟩
  · simp only [Instr.enterLoop, Fw, Sem.run_bind, run_newObj, Result.andThen_ok, Sem.run_pure, World.alloc_eq]
    rw [hw1s]
  · have he : (rangeCall g (w.heap.size + 1)).args.map a.eval = #[Value.func (.yield (w.heap.size + 1)) #[] #[]] := by simp only [List.map_toArray, List.map_cons, List.map_nil]; rfl
    simp only [resolve]
    rw [hfe, he]
    simp only [Deferred.ofValue, Sem.run_pure]
  · simp only [invoke, callFunc, Sem.run_bind, run_program, Result.andThen_ok, q1, q3, Bool.false_eq_true, if_false, hbn, Sem.run_pure]
    congr 2
    apply Array.ext'; simp
  · rintro e w3 ⟨v, v', M', H2, rfl, hs, _, st, pend, hl2, hst, hkk⟩
    have hen : M'[H.length]? = some (some en) := hs.ext _ _ (get_new hr en)
    obtain ⟨L, k1, k2, k3, k4⟩ := hs.hr.blk _ _ _ hen hl2
    have hgl : (Instr.getLoop (w.heap.size + 1)).run C.P w3 = .ok L w3 := by
      have : w3.heap[w.heap.size + 1]? = some (.loop L) := k1
      simp [Instr.getLoop, getObj, Sem.run, this]
    have hso : ∀ o, (setObj (w.heap.size + 1) o).run C.P w3 = .ok () { w3 with heap := w3.heap.setIfInBounds (w.heap.size + 1) o } := fun o => by
      have : w3.heap[w.heap.size + 1]? = some (.loop L) := k1
      simp [setObj, Sem.run, this]
    have hlt : w.heap.size + 1 < w3.heap.size := (Array.getElem?_eq_some_iff.1 k1).1
    have hnb : (L.state == .busy) = false := by rw [k2]; simpa using hst
    have hl2l : H.length < H2.length := (List.getElem?_eq_some_iff.1 hl2).1
    have s4 := Stp.setBlk (k' := lb .exhausted pend) (o' := .loop { L with state := .exhausted }) hs.hr hl2 hen (by unfold writB; rw [hl2]; trivial) (by unfold writB; rw [List.getElem?_set_self hl2l]; trivial)
      ⟨{ L with state := .exhausted }, by simp [en, hlt], rfl, k3, k4⟩
    have sall := (s12.trans hs).trans s4
    have hmarks : Marks w { w3 with heap := w3.heap.setIfInBounds en.blk (.loop { L with state := .exhausted }) } a.defers ([{ target := .collected w.heap.size, args := #[] }] ++ a.defers) := by
      refine ⟨[w.heap.size], rfl, by simp, fun r hr' => ?_⟩
      simp at hr'; subst hr'
      exact ⟨Nat.le_refl _, deferred_kept hs.hr s4 (deferred_kept s2.hr hs hdef)⟩
    refine ⟨L.pending, { w3 with heap := w3.heap.setIfInBounds (w.heap.size + 1) (.loop { L with state := .exhausted }) }, ?_, ?_⟩
    · simp only [Instr.endLoop, Sem.run_bind, hgl, Result.andThen_ok, hnb, Bool.false_eq_true, if_false, Sem.run_ite, Sem.run_pure, hso]
    · have hfin : ∀ x : Exit, ExR (pend.getD .normal) x → ∃ e H' M'', K e fr [] H' ∧ ExR e x ∧ Stp M H w M'' H' { w3 with heap := w3.heap.setIfInBounds (w.heap.size + 1) (.loop { L with state := .exhausted }) } ∧ FS M'' [] fr a.tmps ∧
          Marks w { w3 with heap := w3.heap.setIfInBounds (w.heap.size + 1) (.loop { L with state := .exhausted }) } a.defers ([{ target := .collected w.heap.size, args := #[] }] ++ a.defers) := fun x hx => ⟨_, _, M', RFX_out hkk, hx, sall, hf.step sall.ext, hmarks⟩
      cases hp : L.pending with
      | none =>
        rw [hp] at k3 hfin
        cases pend with
        | none => refine hfin _ ?_; trivial
        | some e => cases e <;> exact k3.elim
      | some c =>
        rw [hp] at k3 hfin
        cases pend with
        | none => exact k3.elim
        | some e =>
          cases e with
          | normal => cases c <;> exact k3.elim
          | ret => cases c <;> first | exact k3.elim | exact wpIn_ret (by refine hfin _ ?_; trivial)
          | exit i => cases c <;> first | exact k3.elim | exact wpIn_exit (by refine hfin _ ?_; exact k3)

theorem comp_ok (hE : C.E.Ok C.P) : ∀ (c : Code) (ro : Option Nat) (_ : noRF c = true ∨ ro = none) (h : Hnt) (fr : CFr) (L : Loc) (H : Heap) (K : CK), comp C loc c h fr L H K → Goes C ro c fr L H K := by
  intro c
  induction c with
  | skip =>
    intro ro hro h fr L H K hc n M ML a w h1 h2 h3
    replace hc : K .normal fr L H := hc
    exact wpIn_skip ⟨.normal, _, _, _, M, ML, hc, trivial, .refl h1 h2 h3⟩
  | label l =>
    intro ro hro h fr L H K hc n M ML a w h1 h2 h3
    replace hc : K .normal fr L H := hc
    exact wpIn_label ⟨.normal, _, _, _, M, ML, hc, trivial, .refl h1 h2 h3⟩
  | exit id =>
    intro ro hro h fr L H K hc n M ML a w h1 h2 h3
    replace hc : K (.exit id) fr L H := hc
    exact wpIn_exit ⟨.exit id, _, _, _, M, ML, hc, rfl, .refl h1 h2 h3⟩
  | ret =>
    intro ro hro h fr L H K hc n M ML a w h1 h2 h3
    replace hc : K .ret fr L H := hc
    exact wpIn_ret ⟨.ret, _, _, _, M, ML, hc, trivial, .refl h1 h2 h3⟩
  | region id ops draw =>
    intro ro hro h fr L H K hc
    simp only [comp] at hc
    split at hc
    · intro n M ML a w h1 h2 h3
      exact reg_ok hE hc h1 h2 h3 fun fr' L' H' M' ML' a' w' hk hb => ⟨.normal, fr', L', H', M', ML', hk, trivial, hb⟩
    · rename_i J hj
      unfold JOIN at hc
      intro n M ML a w h1 h2 h3
      refine reg_ok hE hc h1 h2 h3 fun fr' L' H' M' ML' a' w' hk hb => ?_
      obtain ⟨y, g1, g2, g3, g4⟩ := jexit_ok hk
      exact ⟨.normal, _, _, H', M', ML, g4, trivial, join_ok h3 h2 hb g1 g2 g3⟩
  | seq x y ihx ihy =>
    intro ro hro h fr L H K hc n M ML a w h1 h2 h3
    simp only [comp] at hc
    refine wpIn_seq (wpIn_mono (ihx ro (hro.imp_left fun q => by simp only [noRF, Bool.and_eq_true] at q; exact q.1) h.a fr L H _ hc n M ML a w h1 h2 h3) ?_)
    rintro x a' w' ⟨e, fr', L', H', M', ML', q1, q2, q3⟩
    cases e with
    | normal =>
      cases x <;> first | exact q2.elim | skip
      simp only at q1
      refine wpIn_mono (ihy ro (hro.imp_left fun q => by simp only [noRF, Bool.and_eq_true] at q; exact q.2) h.b fr' L' H' K q1 n M' ML' a' w' q3.st.st.hr q3.lr q3.fs) ?_
      rintro x2 a2 w2 ⟨e2, fr2, L2, H2, M2, ML2, r1, r2, r3⟩
      exact ⟨e2, fr2, L2, H2, M2, ML2, r1, r2, q3.trans r3⟩
    | exit i => cases x <;> first | exact q2.elim | exact ⟨.exit i, fr', L', H', M', ML', q1, q2, q3⟩
    | ret => cases x <;> first | exact q2.elim | exact ⟨.ret, fr', L', H', M', ML', q1, q2, q3⟩
  | cond c x y ihx ihy =>
    intro ro hro h fr L H K hc
    simp only [comp] at hc
    split at hc
    · rename_i g hg
      have two : ∀ K, ifB g (comp C loc x h.a fr L H K) (comp C loc y h.b fr L H K) → Goes C ro (.cond c x y) fr L H K := by
        intro K hk n M ML a w h1 h2 h3
        have hv := (cV_ok h3 hg).of_bool
        cases g with
        | true => exact wpIn_cond_true hv (ihx ro (hro.imp_left fun q => by simp only [noRF, Bool.and_eq_true] at q; exact q.1) h.a fr L H K hk n M ML a w h1 h2 h3)
        | false => exact wpIn_cond_false hv (ihy ro (hro.imp_left fun q => by simp only [noRF, Bool.and_eq_true] at q; exact q.2) h.b fr L H K hk n M ML a w h1 h2 h3)
      split at hc
      · exact two K hc
      · rename_i J hj
        unfold JOIN at hc
        exact join_goes (two _ hc) fun x H' hx => hx
    · exact hc.elim
  | block id c ih =>
    intro ro hro h fr L H K hc
    simp only [comp] at hc
    have out : ∀ (K1 K : CK), Goes C ro c fr L H K1 → (∀ fr' L' H', K1 .normal fr' L' H' → K .normal fr' L' H') → (∀ fr' L' H', K1 (.exit id) fr' L' H' → K .normal fr' L' H') → (∀ i fr' L' H', i ≠ id → K1 (.exit i) fr' L' H' → K (.exit i) fr' L' H') → (∀ fr' L' H', K1 .ret fr' L' H' → K .ret fr' L' H') → Goes C ro (.block id c) fr L H K := by
      intro K1 K hg k1 k2 k3 k4 n M ML a w h1 h2 h3
      refine wpIn_block (wpIn_mono (hg n M ML a w h1 h2 h3) ?_)
      rintro x a' w' ⟨e, fr', L', H', M', ML', q1, q2, q3⟩
      cases e with
      | normal => cases x <;> first | exact q2.elim | exact ⟨.normal, fr', L', H', M', ML', k1 _ _ _ q1, trivial, q3⟩
      | ret => cases x <;> first | exact q2.elim | exact ⟨.ret, fr', L', H', M', ML', k4 _ _ _ q1, trivial, q3⟩
      | exit i =>
        cases x <;> first | exact q2.elim | skip
        rename_i i2
        have q2 : i = i2 := q2
        subst q2
        by_cases hi : i = id
        · subst hi
          simp only [Exit.inBlock, if_true]
          exact ⟨.normal, fr', L', H', M', ML', k2 _ _ _ q1, trivial, q3⟩
        · simp only [Exit.inBlock, if_neg hi]
          exact ⟨.exit i, fr', L', H', M', ML', k3 _ _ _ _ hi q1, rfl, q3⟩
    split at hc
    · refine out _ K (ih ro (hro.imp_left fun q => q) h.a fr L H _ hc) (fun _ _ _ h => h) (fun _ _ _ h => ?_) (fun i _ _ _ hi h => ?_) (fun _ _ _ h => h)
      · simpa using h
      · simpa [hi] using h
    · rename_i J hj
      unfold JOIN at hc
      refine join_goes (J := J) (B := fun x H' => K .normal (J.fr fr x) (J.loc L x) H') (out _ _ (ih ro (hro.imp_left fun q => q) h.a fr L H _ hc) (fun _ _ _ h => h) (fun _ _ _ h => ?_) (fun i _ _ _ hi h => ?_) (fun _ _ _ h => h)) fun x H' hx => hx
      · simpa [jK] using h
      · simpa [jK, hi] using h
  | loop c ih =>
    intro ro hro h fr L H K hc
    simp only [comp] at hc
    split at hc
    · rename_i J hj
      split at hc
      · rename_i y z hy hz
        obtain ⟨m, hm⟩ := hc
        intro n M ML a w h1 h2 h3
        -- the rounds
        have rounds : ∀ (m : Nat) (s : J.S) (H : Heap) (M' : Mp) (a' : Act) (w' : World), itP (fun rec (s : J.S) H => comp C loc c h.a (J.fr fr s) (J.loc L s) H (jK J (J.fr fr s) (J.loc L s) rec K)) m s H →
            HR M' H w' → LR M' H (J.loc L s) ML w' → FS M' ML (J.fr fr s) a'.tmps →
            Code.roundsIn (Fw ro) n C.P c (fun x a2 w2 => ∃ e fr' L' H' M2 ML2 s2, K e fr' L' H' ∧ ExR e x ∧ LSt M' H ML w' M2 H' ML2 w2 ∧ LR M2 H' L' ML2 w2 ∧ FS M2 ML2 fr' a2.tmps ∧ LRel (J.loc L s2) L' ∧ Suf (J.fr fr s2) fr' ∧ (∃ N, ML2 = ML ++ N) ∧ Marks w' w2 a'.defers a2.defers) m a' w' := by
          intro m
          induction m with
          | zero => intro s H M' a' w' hi; exact hi.elim
          | succ m ihm =>
            intro s H M' a' w' hi g1 g2 g3
            rw [roundsIn_succ]
            refine wpIn_mono (ih ro (hro.imp_left fun q => q) h.a _ _ _ _ hi n M' ML a' w' g1 g2 g3) ?_
            rintro x a2 w2 ⟨e, fr', L', H', M2, ML2, q1, q2, q3⟩
            rcases jK_ok q1 with ⟨rfl, hjx⟩ | ⟨hne, hk⟩
            · cases x <;> first | exact q2.elim | skip
              obtain ⟨s', k1, k2, k3, k4⟩ := jexit_ok hjx
              have b := join_ok g3 g2 q3 k1 k2 k3
              have f' : FS M2 ML (J.fr fr s') a2.tmps := b.fs.same rfl head_fr
              have l' : LR M2 H' (J.loc L s') ML w2 := b.lr.same (by unfold Jn.loc; simp only [jputL_len]) (head_loc k3)
              refine rounds_mono ?_ m a2 w2 (ihm s' H' M2 a2 w2 k4 b.st.st.hr l' f')
              rintro x3 a3 w3 ⟨e3, fr3, L3, H3, M3, ML3, s3, r1, r2, r3, r4, r5, r6, r7, r8, r9⟩
              exact ⟨e3, fr3, L3, H3, M3, ML3, s3, r1, r2, b.st.trans r3, r4, r5, r6, r7, r8, b.defers.transL b.st.st.hr b.lr r3.st b.st.st.size r9⟩
            · have done : ∃ e fr' L' H' M2 ML2 s2, K e fr' L' H' ∧ ExR e x ∧ LSt M' H ML w' M2 H' ML2 w2 ∧ LR M2 H' L' ML2 w2 ∧ FS M2 ML2 fr' a2.tmps ∧ LRel (J.loc L s2) L' ∧ Suf (J.fr fr s2) fr' ∧ (∃ N, ML2 = ML ++ N) ∧ Marks w' w2 a'.defers a2.defers :=
                ⟨e, fr', L', H', M2, ML2, s, hk, q2, q3.st, q3.lr, q3.fs, q3.rel, q3.suf, q3.mlx, q3.defers⟩
              cases e with
              | normal => exact absurd rfl hne
              | exit i => cases x <;> first | exact q2.elim | exact done
              | ret => cases x <;> first | exact q2.elim | exact done
        refine wpIn_loop_rounds m ?_
        have b0 := Behind.refl h1 h2 h3
        have f0 : FS M ML (J.fr fr (y, z)) a.tmps := ⟨h3.size, fun t s hs => by
          unfold Jn.fr at hs
          rcases jputS_get hy hs with h | ⟨_, h'⟩
          · exact h3.get t s h
          · exact h3.get t s (cget_clr h').2⟩
        have l0 : LR M H (J.loc L (y, z)) ML w := h2.same (by unfold Jn.loc; simp only [jputL_len]) fun i n m cs cs' e1 e2 => by
          rcases jputL_get hz e1 e1 e2 with ⟨_, g, _⟩ | ⟨_, g, _⟩
          · exact g
          · exact g
        refine rounds_mono ?_ m a w (rounds m (y, z) H M a w hm h1 l0 f0)
        rintro x a2 w2 ⟨e, fr', L', H', M2, ML2, s2, r1, r2, r3, r4, r5, r6, r7, r8, r9⟩
        exact ⟨e, fr', L', H', M2, ML2, r1, r2, ⟨r3, r4, r5, (head_rel s2).trans r6, Suf.trans (fr' := J.fr fr s2) ⟨rfl, jputS_suf J.sl s2.1 J.clr fr.l⟩ r7, r8, r9⟩⟩
      · exact hc.elim
    · exact hc.elim
  | rangeFunc g ps asg body iha ihb =>
    intro ro hro h fr L H K hc
    simp only [comp] at hc
    split at hc
    · rename_i fv fl J hg hfl hj
      split at hc
      · rename_i hps
        obtain ⟨f, xs, ys, rfl, hc⟩ := hc
        simp only [Bool.and_eq_true, beq_iff_eq, List.all_eq_true, decide_eq_true_eq] at hps
        obtain ⟨⟨hp1, hp2⟩, hp3, hp4⟩ := hps
        obtain rfl : ro = none := by
          rcases hro with q | q
          · cases q
          · exact q
        intro n M ML a w h1 h2 h3
        have hML : ML = [] := List.length_eq_zero_iff.1 (by rw [h2.len]; rfl)
        subst hML
        refine wpIn_mono (range2_ok (hj := hp1) (iha := fun ro => iha ro (.inl hp3)) (ihb := fun ro => ihb ro (.inl hp4)) hg hfl (fun p hp => hp2 p.1 (by rw [← hp1]; exact List.mem_map_of_mem hp)) hc h1 h3) ?_
        rintro x a' w' ⟨e, H', M', k1, k2, k3, k4, k5⟩
        exact ⟨e, fr, [], H', M', [], k1, k2, ⟨k3.toLSt [], .empty, k4, .refl _, .refl _, ⟨[], rfl⟩, k5⟩⟩
      · exact hc.elim
    · exact hc.elim
  | _ => intro ro hro h fr L H K hc; simp [comp] at hc

end Go.Proofs.YthgfjbafhjkhnaaGreat.Zq
