/- Codes: what their propositions say, the machine does; second part. -/
import Derived.Test.YtkbdfjlpicflaaaGreatDoorZwCode
namespace Go.Proofs.YtkbdfjlpicflaaaGreatDoor.Zq
variable {C : CEnv} {M M' : Mp} {H H' : Heap} {w w' : World} {L L' : Loc} {ML ML' : Ml} {fr fr' : CFr} {a a' : Act} {ro : Option Nat} {n : Nat} {loc : List Nat}

/-- A code's way: from whatever is alike, it comes to what K says. -/
def Goes (C : CEnv) (ro : Option Nat) (c : Code) (fr : CFr) (L : Loc) (H : Heap) (K : CK) : Prop :=
  ∀ (n : Nat) (M : Mp) (ML : Ml) (a : Act) (w : World), HR M H w → LR M H L ML w → FS M ML fr a.tmps →
    c.wpIn (Fw ro) n C.P (fun x a' w' => ∃ e fr' L' H' M' ML', K e fr' L' H' ∧ ExR e x ∧ Behind M H L ML w fr a M' H' L' ML' w' fr' a') a w

theorem Goes.mono {c : Code} {K K' : CK} (h : Goes C ro c fr L H K) (hk : ∀ e fr' L' H', K e fr' L' H' → K' e fr' L' H') : Goes C ro c fr L H K' :=
  fun n M ML a w h1 h2 h3 => wpIn_mono (h n M ML a w h1 h2 h3) fun _ _ _ ⟨e, fr', L', H', M', ML', q1, q2⟩ => ⟨e, fr', L', H', M', ML', hk _ _ _ _ q1, q2⟩

theorem LR.same {L2 : Loc} (l : LR M H L ML w) (hl : L2.length = L.length) (hc : ∀ (i n m : Nat) (cs cs' : List Value), L[i]? = some (n, cs) → L2[i]? = some (m, cs') → cs' = cs) : LR M H L2 ML w := by
  refine ⟨by rw [hl]; exact l.len, fun i e m cs hi hL => ?_, l.sep1, l.sep2⟩
  have hi' : i < L.length := by rw [← l.len]; exact (List.getElem?_eq_some_iff.1 hi).1
  obtain ⟨⟨n0, cs0⟩, e1⟩ : ∃ p, L[i]? = some p := ⟨_, List.getElem?_eq_getElem hi'⟩
  have := hc i n0 m cs0 cs e1 hL
  subst this
  exact l.loc i e n0 _ hi e1
theorem FS.same {fr2 : CFr} (f : FS M ML fr a.tmps) (hn : fr2.n = fr.n) (hc : ∀ t s, cget fr2.l t = some s → cget fr.l t = some s) : FS M ML fr2 a.tmps :=
  ⟨by rw [hn]; exact f.size, fun t s h => f.get t s (hc t s h)⟩

theorem jputS_any : ∀ {sl : List (Nat × Tag)} {x y : TupP sl} {l l' : List (Nat × Option Sv)} {t : Nat} {s : Sv}, (∀ s, (∀ p ∈ sl, p.1 ≠ t) → cget l t = some s → cget l' t = some s) → cget (jputS sl x l) t = some s → (∃ p ∈ sl, p.1 = t) ∨ cget (jputS sl y l') t = some s
  | [], x, y, l, l', t, s, h, hc => .inr (h s (fun p hp => by simp at hp) hc)
  | (d, T) :: r, x, y, l, l', t, s, h, hc => by
    simp only [jputS, cget] at hc ⊢
    by_cases e : d = t
    · exact .inl ⟨(d, T), by simp, e⟩
    · rw [if_neg e] at hc
      rcases jputS_any (y := y.2) (fun s hn => h s fun p hp => (List.mem_cons.1 hp).elim (fun h' => by subst h'; exact e) (hn p)) hc with ⟨p, hp, he⟩ | h'
      · exact .inl ⟨p, by simp [hp], he⟩
      · exact .inr (by rw [if_neg e]; exact h')

theorem jputL_pass : ∀ {lo : List (Nat × Tag)} {x : TupP lo} {L : Loc} {i : Nat}, (∀ p ∈ lo, p.1 ≠ i) → (jputL lo x L)[i]? = L[i]?
  | [], _, _, _, _ => rfl
  | (j, T) :: r, x, L, i, hn => by
    have ih := jputL_pass (lo := r) (x := x.2) (L := L) (i := i) fun p hp => hn p (by simp [hp])
    simp only [jputL]
    split
    · rw [List.getElem?_set_ne (hn (j, T) (by simp))]; exact ih
    · exact ih
theorem jputL_ver : ∀ {lo : List (Nat × Tag)} {x : TupP lo} {L : Loc} {i n m : Nat} {cs cs' : List Value}, L[i]? = some (n, cs) → (jputL lo x L)[i]? = some (m, cs') → (∃ p ∈ lo, p.1 = i) → m = n + 1
  | [], _, _, _, _, _, _, _, _, _, ⟨p, hp, _⟩ => by simp at hp
  | (j, T) :: r, x, L, i, n, m, cs, cs', h1, h2, ⟨p, hp, he⟩ => by
    simp only [jputL] at h2
    by_cases e : j = i
    · subst e
      rw [h1] at h2
      simp only at h2
      rw [List.getElem?_set_self (by rw [jputL_len]; exact (List.getElem?_eq_some_iff.1 h1).1)] at h2
      simp at h2; exact h2.1.symm
    · have h2' : (jputL r x.2 L)[i]? = some (m, cs') := by
        split at h2
        · rw [List.getElem?_set_ne e] at h2; exact h2
        · exact h2
      refine jputL_ver h1 h2' ⟨p, ?_, he⟩
      rcases List.mem_cons.1 hp with rfl | hp
      · exact absurd he e
      · exact hp
theorem jgetL_lt : ∀ {lo : List (Nat × Tag)} {x : TupP lo} {L : Loc}, jgetL L lo = some x → ∀ p ∈ lo, p.1 < L.length
  | [], _, _, _, p, hp => by simp at hp
  | (j, T) :: r, x, L, h, p, hp => by
    simp only [jgetL] at h
    split at h
    · rename_i m cs hc
      split at h
      · rename_i y z g1 g2
        rcases List.mem_cons.1 hp with rfl | hp
        · exact (List.getElem?_eq_some_iff.1 hc).1
        · exact jgetL_lt g2 p hp
      · cases h
    · cases h
theorem jputS_pass : ∀ {sl : List (Nat × Tag)} {x : TupP sl} {l : List (Nat × Option Sv)} {t : Nat}, (∀ p ∈ sl, p.1 ≠ t) → cget (jputS sl x l) t = cget l t
  | [], _, _, _, _ => rfl
  | (d, T) :: r, x, l, t, hn => by
    simp only [jputS, cget]
    rw [if_neg (hn (d, T) (by simp)), jputS_pass (fun p hp => hn p (by simp [hp]))]
theorem jputS_at : ∀ {sl : List (Nat × Tag)} {x : TupP sl} {l l' : List (Nat × Option Sv)} {t : Nat} {s : Sv}, (∃ p ∈ sl, p.1 = t) → cget (jputS sl x l) t = some s → cget (jputS sl x l') t = some s
  | [], _, _, _, _, _, ⟨p, hp, _⟩, _ => by simp at hp
  | (d, T) :: r, x, l, l', t, s, ⟨p, hp, he⟩, h => by
    simp only [jputS, cget] at h ⊢
    by_cases e : d = t
    · rw [if_pos e] at h ⊢; exact h
    · rw [if_neg e] at h ⊢
      refine jputS_at ⟨p, ?_, he⟩ h
      rcases List.mem_cons.1 hp with rfl | hp
      · exact absurd he e
      · exact hp

theorem jputL_cell : ∀ {lo : List (Nat × Tag)} {x y : TupP lo} {L : Loc} {i n m : Nat} {cs cs' : List Value}, (jputL lo x (jputL lo y L))[i]? = some (n, cs) → (jputL lo x L)[i]? = some (m, cs') → (∃ L2 : Loc, jgetL L2 lo = some x) → cs' = cs := by
  intro lo x y L i n m cs cs' h1 h2 ⟨L2, h3⟩
  have hi : i < L.length := by have := (List.getElem?_eq_some_iff.1 h2).1; rw [jputL_len] at this; exact this
  have hb : ∀ p ∈ lo, p.1 < L2.length := jgetL_lt h3
  rcases Classical.em (∃ p ∈ lo, p.1 = i) with hq | hq
  · obtain ⟨p, hp, he⟩ := hq
    have hi2 : i < L2.length := by rw [← he]; exact hb p hp
    obtain ⟨⟨a, ds⟩, e1⟩ : ∃ q, L2[i]? = some q := ⟨_, List.getElem?_eq_getElem hi2⟩
    obtain ⟨⟨a1, ds1⟩, e2⟩ : ∃ q, L[i]? = some q := ⟨_, List.getElem?_eq_getElem hi⟩
    obtain ⟨⟨a2, ds2⟩, e3⟩ : ∃ q, (jputL lo y L)[i]? = some q := ⟨_, List.getElem?_eq_getElem (by rw [jputL_len]; exact hi)⟩
    rcases jputL_get h3 e2 e1 h2 with ⟨_, g, _⟩ | ⟨g, _⟩
    · rcases jputL_get h3 e3 e1 h1 with ⟨_, g', _⟩ | ⟨g', _⟩
      · rw [g, g']
      · exact absurd he (g' p hp)
    · exact absurd he (g p hp)
  · have hn : ∀ p ∈ lo, p.1 ≠ i := fun p hp e => hq ⟨p, hp, e⟩
    rw [jputL_pass hn, jputL_pass hn] at h1
    rw [jputL_pass hn] at h2
    rw [h1] at h2; simp at h2; exact h2.2.symm
theorem head_loc {J : Jn} {s s' : J.S} (h : jgetL L' J.lo = some s'.2) : ∀ (i n m : Nat) (cs cs' : List Value), (J.loc (J.loc L s) s')[i]? = some (n, cs) → (J.loc L s')[i]? = some (m, cs') → cs' = cs :=
  fun _ _ _ _ _ h1 h2 => jputL_cell h1 h2 ⟨L', h⟩
theorem head_rel {J : Jn} (s : J.S) : LRel L (J.loc L s) := by
  refine ⟨by unfold Jn.loc; rw [jputL_len]; exact Nat.le_refl _, fun i n cs m cs' h1 h2 => ?_⟩
  unfold Jn.loc at h2
  rcases Classical.em (∃ p ∈ J.lo, p.1 = i) with hq | hq
  · have := jputL_ver h1 h2 hq
    exact ⟨by omega, fun e => by omega⟩
  · rw [jputL_pass (fun p hp e => hq ⟨p, hp, e⟩), h1] at h2
    simp at h2; exact ⟨by omega, fun _ => h2.2.symm⟩

/-- The head of a loop, from round to round. -/
theorem head_fr {J : Jn} {s s' : J.S} : ∀ t v, cget (J.fr fr s').l t = some v → cget (J.fr (J.fr fr s) s').l t = some v := by
  intro t v h
  unfold Jn.fr at h ⊢
  simp only at h ⊢
  rcases Classical.em (∃ p ∈ J.sl, p.1 = t) with hq | hq
  · exact jputS_at hq h
  · have hn : ∀ p ∈ J.sl, p.1 ≠ t := fun p hp e => hq ⟨p, hp, e⟩
    have h1 := jputS_skip hn h
    rw [jputS_pass hn]
    obtain ⟨g1, g2⟩ := cget_clr h1
    rw [cget_app fun p hp e => ?_, jputS_pass hn]
    · exact h1
    · simp at hp; obtain ⟨c, hc, rfl⟩ := hp; exact g1 (e ▸ hc)

theorem jK_ok {J : Jn} {j : J.S → Heap → Prop} {K : CK} {e : Ex} (h : jK J fr L j K e fr' L' H') : (e = .normal ∧ jexit J fr fr' L L' fun x => j x H') ∨ (e ≠ .normal ∧ K e fr' L' H') := by
  unfold jK at h
  cases e with
  | normal => exact .inl ⟨rfl, h⟩
  | exit i => exact .inr ⟨by simp, h⟩
  | ret => exact .inr ⟨by simp, h⟩

/-- Ways that meet. -/
theorem join_goes {c : Code} {J : Jn} {B : J.S → Heap → Prop} {K : CK} (h : Goes C ro c fr L H (jK J fr L B K)) (hB : ∀ x H', B x H' → K .normal (J.fr fr x) (J.loc L x) H') : Goes C ro c fr L H K := by
  intro n M ML a w h1 h2 h3
  refine wpIn_mono (h n M ML a w h1 h2 h3) ?_
  rintro x a' w' ⟨e, fr', L', H', M', ML', q1, q2, q3⟩
  rcases jK_ok q1 with ⟨rfl, hj⟩ | ⟨hne, hk⟩
  · obtain ⟨y, g1, g2, g3, g4⟩ := jexit_ok hj
    exact ⟨.normal, _, _, H', M', ML, hB y H' g4, q2, join_ok h3 h2 q3 g1 g2 g3⟩
  · exact ⟨e, fr', L', H', M', ML', hk, q2, q3⟩

theorem cV_get {x : Operand} {v : Value} (f : FS M ML fr a.tmps) (h : opV fr x = some v) : VR M v (a.eval x) := cV_ok f h

theorem rounds_mono' {F : Fence} {c : Code} {P : Program} {Q Q' : Exit → Act → World → Prop} (hq : ∀ x a w, Q x a w → Q' x a w) (m : Nat) (a : Act) (w : World) (h : Code.roundsIn F n P c Q m a w) : Code.roundsIn F n P c Q' m a w := rounds_mono hq m a w h

theorem comp_ok (hE : C.E.Ok C.P) : ∀ (c : Code) (h : Hnt) (fr : CFr) (L : Loc) (H : Heap) (K : CK), comp C loc c h fr L H K → Goes C ro c fr L H K := by
  intro c
  induction c with
  | skip =>
    intro h fr H L K hc n M ML a w h1 h2 h3
    simp only [comp] at hc
    exact wpIn_skip ⟨.normal, _, _, _, M, ML, hc, trivial, .refl h1 h2 h3⟩
  | label l =>
    intro h fr H L K hc n M ML a w h1 h2 h3
    simp only [comp] at hc
    exact wpIn_label ⟨.normal, _, _, _, M, ML, hc, trivial, .refl h1 h2 h3⟩
  | exit id =>
    intro h fr H L K hc n M ML a w h1 h2 h3
    simp only [comp] at hc
    exact wpIn_exit ⟨.exit id, _, _, _, M, ML, hc, rfl, .refl h1 h2 h3⟩
  | ret =>
    intro h fr H L K hc n M ML a w h1 h2 h3
    simp only [comp] at hc
    exact wpIn_ret ⟨.ret, _, _, _, M, ML, hc, trivial, .refl h1 h2 h3⟩
  | region id ops draw =>
    intro h fr L H K hc
    simp only [comp] at hc
    split at hc
    · intro n M ML a w h1 h2 h3
      exact reg_ok hE hc h1 h2 h3 fun fr' L' H' M' ML' a' w' hk hb => ⟨.normal, fr', L', H', M', ML', hk, trivial, hb⟩
    · rename_i J hj
      unfold JOIN at hc
      intro n M ML a w h1 h2 h3
      refine reg_ok hE hc h1 h2 h3 fun fr' L' H' M' ML' a' w' hk hb => ?_
      obtain ⟨y, g1, g2, g3, g4⟩ := jexit_ok hk
      exact ⟨.normal, _, _, H', M', ML, g4, trivial, join_ok h3 h2 hb g1 g2 g3⟩
  | seq x y ihx ihy =>
    intro h fr L H K hc n M ML a w h1 h2 h3
    simp only [comp] at hc
    refine wpIn_seq (wpIn_mono (ihx h.a fr L H _ hc n M ML a w h1 h2 h3) ?_)
    rintro x a' w' ⟨e, fr', L', H', M', ML', q1, q2, q3⟩
    cases e with
    | normal =>
      cases x <;> first | exact q2.elim | skip
      simp only at q1
      refine wpIn_mono (ihy h.b fr' L' H' K q1 n M' ML' a' w' q3.st.st.hr q3.lr q3.fs) ?_
      rintro x2 a2 w2 ⟨e2, fr2, L2, H2, M2, ML2, r1, r2, r3⟩
      exact ⟨e2, fr2, L2, H2, M2, ML2, r1, r2, q3.trans r3⟩
    | exit i => cases x <;> first | exact q2.elim | exact ⟨.exit i, fr', L', H', M', ML', q1, q2, q3⟩
    | ret => cases x <;> first | exact q2.elim | exact ⟨.ret, fr', L', H', M', ML', q1, q2, q3⟩
  | cond c x y ihx ihy =>
    intro h fr L H K hc
    simp only [comp] at hc
    split at hc
    · rename_i g hg
      have two : ∀ K, ifB g (comp C loc x h.a fr L H K) (comp C loc y h.b fr L H K) → Goes C ro (.cond c x y) fr L H K := by
        intro K hk n M ML a w h1 h2 h3
        have hv := (cV_ok h3 hg).of_bool
        cases g with
        | true => exact wpIn_cond_true hv (ihx h.a fr L H K hk n M ML a w h1 h2 h3)
        | false => exact wpIn_cond_false hv (ihy h.b fr L H K hk n M ML a w h1 h2 h3)
      split at hc
      · exact two K hc
      · rename_i J hj
        unfold JOIN at hc
        exact join_goes (two _ hc) fun x H' hx => hx
    · exact hc.elim
  | block id c ih =>
    intro h fr L H K hc
    simp only [comp] at hc
    have out : ∀ (K1 K : CK), Goes C ro c fr L H K1 → (∀ fr' L' H', K1 .normal fr' L' H' → K .normal fr' L' H') → (∀ fr' L' H', K1 (.exit id) fr' L' H' → K .normal fr' L' H') → (∀ i fr' L' H', i ≠ id → K1 (.exit i) fr' L' H' → K (.exit i) fr' L' H') → (∀ fr' L' H', K1 .ret fr' L' H' → K .ret fr' L' H') → Goes C ro (.block id c) fr L H K := by
      intro K1 K hg k1 k2 k3 k4 n M ML a w h1 h2 h3
      refine wpIn_block (wpIn_mono (hg n M ML a w h1 h2 h3) ?_)
      rintro x a' w' ⟨e, fr', L', H', M', ML', q1, q2, q3⟩
      cases e with
      | normal => cases x <;> first | exact q2.elim | exact ⟨.normal, fr', L', H', M', ML', k1 _ _ _ q1, trivial, q3⟩
      | ret => cases x <;> first | exact q2.elim | exact ⟨.ret, fr', L', H', M', ML', k4 _ _ _ q1, trivial, q3⟩
      | exit i =>
        cases x <;> first | exact q2.elim | skip
        rename_i i2
        have q2 : i = i2 := q2
        subst q2
        by_cases hi : i = id
        · subst hi
          simp only [Exit.inBlock, if_true]
          exact ⟨.normal, fr', L', H', M', ML', k2 _ _ _ q1, trivial, q3⟩
        · simp only [Exit.inBlock, if_neg hi]
          exact ⟨.exit i, fr', L', H', M', ML', k3 _ _ _ _ hi q1, rfl, q3⟩
    split at hc
    · refine out _ K (ih h.a fr L H _ hc) (fun _ _ _ h => h) (fun _ _ _ h => ?_) (fun i _ _ _ hi h => ?_) (fun _ _ _ h => h)
      · simpa using h
      · simpa [hi] using h
    · rename_i J hj
      unfold JOIN at hc
      refine join_goes (J := J) (B := fun x H' => K .normal (J.fr fr x) (J.loc L x) H') (out _ _ (ih h.a fr L H _ hc) (fun _ _ _ h => h) (fun _ _ _ h => ?_) (fun i _ _ _ hi h => ?_) (fun _ _ _ h => h)) fun x H' hx => hx
      · simpa [jK] using h
      · simpa [jK, hi] using h
  | loop c ih =>
    intro h fr L H K hc
    simp only [comp] at hc
    split at hc
    · rename_i J hj
      split at hc
      · rename_i y z hy hz
        obtain ⟨m, hm⟩ := hc
        intro n M ML a w h1 h2 h3
        -- the rounds
        have rounds : ∀ (m : Nat) (s : J.S) (H : Heap) (M' : Mp) (a' : Act) (w' : World), itP (fun rec (s : J.S) H => comp C loc c h.a (J.fr fr s) (J.loc L s) H (jK J (J.fr fr s) (J.loc L s) rec K)) m s H →
            HR M' H w' → LR M' H (J.loc L s) ML w' → FS M' ML (J.fr fr s) a'.tmps →
            Code.roundsIn (Fw ro) n C.P c (fun x a2 w2 => ∃ e fr' L' H' M2 ML2 s2, K e fr' L' H' ∧ ExR e x ∧ LSt M' H ML w' M2 H' ML2 w2 ∧ LR M2 H' L' ML2 w2 ∧ FS M2 ML2 fr' a2.tmps ∧ LRel (J.loc L s2) L' ∧ Suf (J.fr fr s2) fr' ∧ (∃ N, ML2 = ML ++ N) ∧ a2.defers = a'.defers) m a' w' := by
          intro m
          induction m with
          | zero => intro s H M' a' w' hi; exact hi.elim
          | succ m ihm =>
            intro s H M' a' w' hi g1 g2 g3
            rw [roundsIn_succ]
            refine wpIn_mono (ih h.a _ _ _ _ hi n M' ML a' w' g1 g2 g3) ?_
            rintro x a2 w2 ⟨e, fr', L', H', M2, ML2, q1, q2, q3⟩
            rcases jK_ok q1 with ⟨rfl, hjx⟩ | ⟨hne, hk⟩
            · cases x <;> first | exact q2.elim | skip
              obtain ⟨s', k1, k2, k3, k4⟩ := jexit_ok hjx
              have b := join_ok g3 g2 q3 k1 k2 k3
              have f' : FS M2 ML (J.fr fr s') a2.tmps := b.fs.same rfl head_fr
              have l' : LR M2 H' (J.loc L s') ML w2 := b.lr.same (by unfold Jn.loc; simp only [jputL_len]) (head_loc k3)
              refine rounds_mono ?_ m a2 w2 (ihm s' H' M2 a2 w2 k4 b.st.st.hr l' f')
              rintro x3 a3 w3 ⟨e3, fr3, L3, H3, M3, ML3, s3, r1, r2, r3, r4, r5, r6, r7, r8, r9⟩
              exact ⟨e3, fr3, L3, H3, M3, ML3, s3, r1, r2, b.st.trans r3, r4, r5, r6, r7, r8, r9.trans b.defers⟩
            · have done : ∃ e fr' L' H' M2 ML2 s2, K e fr' L' H' ∧ ExR e x ∧ LSt M' H ML w' M2 H' ML2 w2 ∧ LR M2 H' L' ML2 w2 ∧ FS M2 ML2 fr' a2.tmps ∧ LRel (J.loc L s2) L' ∧ Suf (J.fr fr s2) fr' ∧ (∃ N, ML2 = ML ++ N) ∧ a2.defers = a'.defers :=
                ⟨e, fr', L', H', M2, ML2, s, hk, q2, q3.st, q3.lr, q3.fs, q3.rel, q3.suf, q3.mlx, q3.defers⟩
              cases e with
              | normal => exact absurd rfl hne
              | exit i => cases x <;> first | exact q2.elim | exact done
              | ret => cases x <;> first | exact q2.elim | exact done
        refine wpIn_loop_rounds m ?_
        have b0 := Behind.refl h1 h2 h3
        have f0 : FS M ML (J.fr fr (y, z)) a.tmps := ⟨h3.size, fun t s hs => by
          unfold Jn.fr at hs
          rcases jputS_get hy hs with h | ⟨_, h'⟩
          · exact h3.get t s h
          · exact h3.get t s (cget_clr h').2⟩
        have l0 : LR M H (J.loc L (y, z)) ML w := h2.same (by unfold Jn.loc; simp only [jputL_len]) fun i n m cs cs' e1 e2 => by
          rcases jputL_get hz e1 e1 e2 with ⟨_, g, _⟩ | ⟨_, g, _⟩
          · exact g
          · exact g
        refine rounds_mono ?_ m a w (rounds m (y, z) H M a w hm h1 l0 f0)
        rintro x a2 w2 ⟨e, fr', L', H', M2, ML2, s2, r1, r2, r3, r4, r5, r6, r7, r8, r9⟩
        exact ⟨e, fr', L', H', M2, ML2, r1, r2, ⟨r3, r4, r5, (head_rel s2).trans r6, Suf.trans (fr' := J.fr fr s2) ⟨rfl, jputS_suf J.sl s2.1 J.clr fr.l⟩ r7, r8, r9⟩⟩
      · exact hc.elim
    · exact hc.elim
  | _ => intro h fr L H K hc; simp [comp] at hc

end Go.Proofs.YtkbdfjlpicflaaaGreatDoor.Zq
