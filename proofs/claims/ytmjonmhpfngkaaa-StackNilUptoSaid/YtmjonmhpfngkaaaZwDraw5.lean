/- Regions whose order is drawn: every order comes to what was looked at; the end. -/
import Derived.Test.YtmjonmhpfngkaaaZwDraw4
namespace Go.Proofs.Ytmjonmhpfngkaaa.Zq
variable {C : CEnv} {M M' M0 : Mp} {H H' H0 : Heap} {w w' w0 : World} {L L' L0 : Loc} {ML ML' ML0 : Ml} {fr fr' fr0 : CFr} {a a' a0 : Act} {ro : Option Nat} {n : Nat} {Q : Exit → Act → World → Prop} {Kw : Act → World → Prop} {loc : List Nat}
  {ops : Array Oper} {A : Nat → Nat → Prop} {T : Nat → Prop} {pos : Nat → Nat} {S : List Step} {K0 : CFr → Loc → Heap → Prop} {lst : Nat → Bool} {p : Nat} {idf : Nat → Nat}

/-- One that turns something runs. -/
theorem J.exT (g : Good loc ops A T pos S) (hE : C.E.Ok C.P) (j : J C loc ops A T pos S K0 M0 H0 L0 ML0 w0 fr0 a0 lst p fr L H M ML idf a w) {i : Nat} {o : Oper} (hi : ops[i]? = some o) (hp : pos i = p) (hT : T i) (hl : lst i = false) (hA : ∀ q, A i q → lst q = true)
    (hK : ∀ fr' L' H' M' ML' a' w', J C loc ops A T pos S K0 M0 H0 L0 ML0 w0 fr0 a0 (fun q => lst q || q == i) (p + 1) fr' L' H' M' ML' idf a' w' → Kw a' w') : wpOpIn (Fw ro) n C.P ops Q i Kw a w := by
  obtain ⟨as, hS, _, has⟩ := g.sat i o hi
  have has := has hT
  rw [hp] at hS has
  have hlt : p < ops.size := by rw [← hp]; exact g.lt i o hi
  have hdrop : S.drop p = ⟨i, o, as⟩ :: S.drop (p + 1) := by
    obtain ⟨h1, h2⟩ := List.getElem?_eq_some_iff.1 hS
    rw [List.drop_eq_getElem_cons h1, h2]
  have hrun := j.run
  rw [hdrop] at hrun
  simp only [cSteps] at hrun
  obtain ⟨hput, fr1, hs1, hc1, hcase⟩ := cOper_split hrun
  have hsee := j.sees g hi hA
  have hone : ∀ (q : Nat) (oq : Oper), ops[q]? = some oq → q ≠ i → pos q < p + 1 → pos q < p := fun q oq hq hne hlt => by
    have : pos q ≠ p := fun e => hne (g.inj q i (op_lt hq) (op_lt hi) (e.trans hp.symm))
    omega
  have huse : ∀ (s : Sv) (q : Nat) (oq : Oper), ops[q]? = some oq → q ≠ i → pos q < p → lst q = false → ∀ t, t ∈ useOf ops oq → cget (fr1.put? o.dst s).l t = cget fr.l t := fun s q oq hq hne hlt hlq t ht => by
    cases hd : o.dst with
    | none => exact hc1 t
    | some d =>
      show cget (fr1.put d s).l t = _
      rw [cget_put, if_neg fun e => ?_]
      · exact hc1 t
      · subst e
        rcases g.use q oq d i o hq ht hi hd with h | ⟨_, h | h⟩
        · have := g.ord q i (op_lt hq) (op_lt hi) h; omega
        · exact hne h.symm
        · have := hA q h; rw [hlq] at this; simp at this
  have hdstne : ∀ (s : Sv) (q : Nat) (oq : Oper) (d : Nat), ops[q]? = some oq → q ≠ i → oq.dst = some d → cget (fr1.put? o.dst s).l d = cget fr.l d := fun s q oq d hq hne hdq => by
    cases hd : o.dst with
    | none => exact hc1 d
    | some d' =>
      show cget (fr1.put d' s).l d = _
      rw [cget_put, if_neg (fun e => hne (g.dsts q i oq o d hq hi hdq (by rw [hd, e])))]
      exact hc1 d
  have hn : ∀ s : Sv, (fr1.put? o.dst s).n = fr.n := fun s => ((hs1.trans (.put? _ _ _)).1)
  have fin : ∀ (s : Sv) (L' : Loc) (H' : Heap) (M' : Mp) (ML' : Ml) (w' : World) (u : Value), LSt M H ML w M' H' ML' w' → LR M' H' L' ML' w' → (∃ N, ML' = ML ++ N) → LRel L L' → (∀ k : Nat, ML[k]? = some none → L'[k]? = L[k]?) →
      cAsks C ops (fr1.put? o.dst s) L' H' as (cSteps C loc ops (S.drop (p + 1)) (fr1.put? o.dst s) L' H' K0) → SvR M' ML' s u →
      J C loc ops A T pos S K0 M0 H0 L0 ML0 w0 fr0 a0 (fun q => lst q || q == i) (p + 1) (fr1.put? o.dst s) L' H' M' ML' idf (a.put o.dst u) w' := by
    intro s L' H' M' ML' w' u hst hlr hml hrel hkeep hasks hu
    obtain ⟨hrun', hasked⟩ := cAsks_split hasks
    have hml0 : ∀ k : Nat, ML[k]? = some none → ML'[k]? = some none := fun k hk => by
      obtain ⟨N, rfl⟩ := hml
      rw [List.getElem?_append_left (List.getElem?_eq_some_iff.1 hk).1]; exact hk
    refine ⟨by omega, fun q oq hq hTq => ?_, fun q oq hq hlq => ?_, fun x y hx hxy => ?_, hrun', j.st.trans hst, j.rel.trans hrel, j.suf.trans (hs1.trans (.put? _ _ _)), ?_, by rw [put_defers]; exact j.defers, by rw [put_size, hn]; exact j.size,
      fun t s' hs' hall => ?_, hlr, fun q oq hq hlt hlq => ?_, fun q q' oq oq' t t' hq hq' h1 h2 h3 h4 h5 h6 h7 h8 he => ?_⟩
    · by_cases e : q = i
      · subst e; simp [hp]
      · have : (q == i) = false := by simpa using e
        simp only [this, Bool.or_false]
        rw [j.t1 q oq hq hTq]
        exact ⟨fun h => by omega, fun h => hone q oq hq e h⟩
    · simp only [Bool.or_eq_true, beq_iff_eq] at hlq
      rcases hlq with h | h
      · have := j.t2 q oq hq h; omega
      · subst h; omega
    · simp only [Bool.or_eq_true, beq_iff_eq] at hx ⊢
      rcases hx with h | h
      · exact .inl (j.cl x y h hxy)
      · subst h; exact .inl (hA y hxy)
    · obtain ⟨N, hN⟩ := j.mlx
      obtain ⟨N', hN'⟩ := hml
      exact ⟨N ++ N', by rw [hN', hN, List.append_assoc]⟩
    · by_cases e : o.dst = some t
      · rw [e] at hs'
        have hs2 : cget (fr1.put t s).l t = some s' := hs'
        rw [cget_put, if_pos rfl] at hs2
        simp at hs2; subst hs2
        have hlt : t < a.tmps.size := by
          have hput' := hput
          unfold cPutOk at hput'
          rw [e] at hput'
          rw [j.size]; simpa using hput'
        rw [e, putD_eq hlt]; exact hu
      · rw [putD_ne e]
        have hold : cget fr.l t = some s' := by
          cases hd : o.dst with
          | none => rw [hd] at hs'; rw [← hc1 t]; exact hs'
          | some d =>
            rw [hd] at hs'
            have hs2 : cget (fr1.put d s).l t = some s' := hs'
            rw [cget_put, if_neg (fun e' => e (by rw [hd, e']))] at hs2
            rw [← hc1 t]; exact hs2
        refine (j.slots t s' hold fun q oq hq hd hlt => ?_).mono2 hst.st.ext hml
        have := hall q oq hq hd (by omega)
        simp only [Bool.or_eq_true, beq_iff_eq] at this
        rcases this with h | h
        · exact h
        · subst h; rw [hi] at hq; simp at hq; subst hq; exact absurd hd e
    · simp only [Bool.or_eq_false_iff, beq_eq_false_iff_ne] at hlq
      obtain ⟨hlq, hne⟩ := hlq
      have hlt' := hone q oq hq hne hlt
      obtain ⟨h1, h2⟩ := j.pend q oq hq hlt' hlq
      refine ⟨by unfold cPutOk at h1 ⊢; rw [hn]; exact h1, ?_⟩
      rcases h2 with ⟨h2, h3⟩ | ⟨h2, h3⟩
      · exact .inl ⟨h2.congr (huse s q oq hq hne hlt' hlq), fun d hd => by rw [hdstne s q oq d hq hne hd]; exact h3 d hd⟩
      · have hw' := h2.congr (huse s q oq hq hne hlt' hlq)
        refine .inr ⟨hw', ?_⟩
        rcases h3 with ⟨t, ti, m, e1, e2, e3, e4, e5, e6⟩ | ⟨s', e1, e2, e3⟩
        · exact .inl ⟨t, ti, m, e1, e2, fun d hd => by rw [hdstne s q oq d hq hne hd]; exact e3 d hd, e4, hml0 _ e5, by rw [hkeep _ e5]; exact e6⟩
        · have hd' : ∀ d, oq.dst = some d → cget (fr1.put? o.dst s).l d = some s' := fun d hd => by rw [hdstne s q oq d hq hne hd]; exact e1 d hd
          refine .inr ⟨s', hd', e2, ?_⟩
          cases hr : reads oq.op with
          | false => exact vals_pure hr (vals_congr (huse s q oq hq hne hlt' hlq) e3) e2
          | true =>
            have hnT : ¬ T q := fun hTq => by
              have := (j.t1 q oq hq hTq).2 hlt'
              rw [hlq] at this; simp at this
            have hnA : ¬ A i q := fun h => by have := hA q h; rw [hlq] at this; simp at this
            exact vals_asked e3 (huse s q oq hq hne hlt' hlq) hd' hw' (hasked oq (has q oq hq hlt' hr hnA hnT))
    · simp only [Bool.or_eq_false_iff, beq_eq_false_iff_ne] at h3 h4
      have k1 := hone q oq hq h3.2 h1
      have k2 := hone q' oq' hq' h4.2 h2
      exact j.ids q q' oq oq' t t' hq hq' k1 k2 h3.1 h4.1 h5 h6 (h7.congr fun t ht => (huse s q oq hq h3.2 k1 h3.1 t ht).symm) (h8.congr fun t ht => (huse s q' oq' hq' h4.2 k2 h4.1 t ht).symm) he
  unfold wpOpIn
  rw [hi]
  simp only
  rcases hcase with ⟨hu, hk⟩ | ⟨hw, hop⟩
  · rw [unw_ok hu hsee]
    exact ⟨fun _ _ => trivial, hK _ _ _ _ _ _ _ (fin _ L H M ML w undef (.refl j.st.st.hr ML) j.lr ⟨[], by simp⟩ (.refl L) (fun _ _ => rfl) hk (VR.undef M))⟩
  · rw [wan_ok hw hsee]
    exact cOp_ok (ro := ro) (n := n) (Q := Q) (pos := o.pos) (after := o.after) (guard := o.guard) hE j.st.st.hr j.lr (useFr_fs j.size hsee) (useFr_cOp hc1 hop) fun s L' H' M' ML' w' u hk ha hu =>
      hK _ _ _ _ _ _ _ (fin s L' H' M' ML' w' u ha.1 ha.2.1 ha.2.2.2.2.1 ha.2.2.2.1 ha.2.2.2.2.2 hk hu)

/-- What turns nothing is looked at, as far as one likes. -/
theorem J.adv (g : Good loc ops A T pos S) : ∀ (m p : Nat) (fr : CFr) (L : Loc) (ML : Ml) (idf : Nat → Nat), J C loc ops A T pos S K0 M0 H0 L0 ML0 w0 fr0 a0 lst p fr L H M ML idf a w → p + m ≤ ops.size → (∀ i o, ops[i]? = some o → p ≤ pos i → pos i < p + m → ¬ T i ∧ lst i = false) →
    ∃ fr' L' ML' idf', J C loc ops A T pos S K0 M0 H0 L0 ML0 w0 fr0 a0 lst (p + m) fr' L' H M ML' idf' a w
  | 0, p, fr, L, ML, idf, j, _, _ => ⟨fr, L, ML, idf, j⟩
  | m + 1, p, fr, L, ML, idf, j, hle, hno => by
    obtain ⟨i, o, hi, hp⟩ := g.inv p (by omega)
    obtain ⟨h1, h2⟩ := hno i o hi (by omega) (by omega)
    obtain ⟨fr1, L1, ML1, idf1, j1⟩ := j.adv1 g hi hp h1 h2
    obtain ⟨fr2, L2, ML2, idf2, j2⟩ := J.adv g m (p + 1) fr1 L1 ML1 idf1 j1 (by omega) (fun i o hi h1 h2 => hno i o hi (by omega) (by omega))
    exact ⟨fr2, L2, ML2, idf2, by rw [show p + (m + 1) = p + 1 + m by omega]; exact j2⟩

def JJ (C : CEnv) (loc : List Nat) (ops : Array Oper) (A : Nat → Nat → Prop) (T : Nat → Prop) (pos : Nat → Nat) (S : List Step) (K0 : CFr → Loc → Heap → Prop) (M0 : Mp) (H0 : Heap) (L0 : Loc) (ML0 : Ml) (w0 : World) (fr0 : CFr) (a0 : Act) (lst : Nat → Bool) (a : Act) (w : World) : Prop :=
  ∃ p fr L H M ML idf, J C loc ops A T pos S K0 M0 H0 L0 ML0 w0 fr0 a0 lst p fr L H M ML idf a w

theorem JJ.step (g : Good loc ops A T pos S) (hE : C.E.Ok C.P) (jj : JJ C loc ops A T pos S K0 M0 H0 L0 ML0 w0 fr0 a0 lst a w) {i : Nat} {o : Oper} (hi : ops[i]? = some o) (hl : lst i = false) (he : ∀ e ∈ o.after.toList, Region.binds .any e = true → lst e.on = true)
    (hK : ∀ a' w', JJ C loc ops A T pos S K0 M0 H0 L0 ML0 w0 fr0 a0 (fun q => lst q || q == i) a' w' → Kw a' w') : wpOpIn (Fw ro) n C.P ops Q i Kw a w := by
  obtain ⟨p, fr, L, H, M, ML, idf, j⟩ := jj
  have hA : ∀ q, A i q → lst q = true := fun q hq => by
    obtain ⟨o', e, h1, h2, h3, h4⟩ := g.edge i q hq
    rw [hi] at h1; simp at h1; subst h1
    have := he e h2 h3
    rcases h4 with rfl | h4
    · exact this
    · exact j.cl _ _ this h4
  -- between here and i nothing turns anything, nothing has run
  have hno : ∀ (q : Nat) (oq : Oper), ops[q]? = some oq → p ≤ pos q → pos q < pos i → ¬ T q ∧ lst q = false := fun q oq hq h1 h2 => by
    have hlq : lst q = false := by
      cases h : lst q with
      | false => rfl
      | true => have := j.t2 q oq hq h; omega
    refine ⟨fun hTq => ?_, hlq⟩
    have := hA q (g.tt i q (op_lt hi) (op_lt hq) hTq h2)
    rw [hlq] at this; simp at this
  have hpi := g.lt i o hi
  by_cases hT : T i
  · have hge : p ≤ pos i := by
      rcases Nat.lt_or_ge (pos i) p with h | h
      · have := (j.t1 i o hi hT).2 h
        rw [hl] at this; simp at this
      · exact h
    obtain ⟨fr1, L1, ML1, idf1, j1⟩ := J.adv g (pos i - p) p fr L ML idf j (by omega) (fun q oq hq h1 h2 => hno q oq hq h1 (by omega))
    rw [show p + (pos i - p) = pos i by omega] at j1
    exact j1.exT g hE hi rfl hT hl hA fun fr' L' H' M' ML' a' w' j' => hK a' w' ⟨_, _, _, _, _, _, _, j'⟩
  · by_cases hlt : pos i < p
    · exact j.exP g hE hi hlt hT hl hA fun M' ML' a' w' j' => hK a' w' ⟨_, _, _, _, _, _, _, j'⟩
    · obtain ⟨fr1, L1, ML1, idf1, j1⟩ := J.adv g (pos i + 1 - p) p fr L ML idf j (by omega) (fun q oq hq h1 h2 => by
        by_cases e : pos q = pos i
        · have := g.inj q i (op_lt hq) (op_lt hi) e
          subst this
          exact ⟨hT, hl⟩
        · exact hno q oq hq h1 (by omega))
      rw [show p + (pos i + 1 - p) = pos i + 1 by omega] at j1
      exact j1.exP g hE hi (by omega) hT hl hA fun M' ML' a' w' j' => hK a' w' ⟨_, _, _, _, _, _, _, j'⟩

theorem any_gen {P : Program} {I : (Nat → Bool) → Act → World → Prop} (back : ∀ (i : Nat) (o : Oper) (e : Edge), ops[i]? = some o → e ∈ o.after.toList → Region.binds .any e = true → e.on < i)
    (step : ∀ (lst : Nat → Bool) (a : Act) (w : World) (i : Nat) (o : Oper) (K : Act → World → Prop), I lst a w → ops[i]? = some o → lst i = false → (∀ e ∈ o.after.toList, Region.binds .any e = true → lst e.on = true) → (∀ a' w', I (fun q => lst q || q == i) a' w' → K a' w') → wpOpIn (Fw ro) n P ops Q i K a w)
    (hQ : ∀ lst a w, (∀ q, q < ops.size → lst q = true) → I lst a w → Q .normal a w) :
    ∀ (fuel : Nat) (listed : Array Bool) (a : Act) (w : World), listed.size = ops.size → (List.range ops.size).countP (fun i => !Lof listed i) ≤ fuel → I (Lof listed) a w → wpAnyIn (Fw ro) n P .any ops Q fuel listed a w := by
  have allListed : ∀ (listed : Array Bool), listed.size = ops.size → Region.ready .any ops listed = [] → ∀ q, q < ops.size → Lof listed q = true := by
    intro listed hls hr q
    induction q using Nat.strongRecOn with
    | _ q ih =>
      intro hq
      cases hL : Lof listed q with
      | true => rfl
      | false =>
        exfalso
        have : q ∈ Region.ready .any ops listed := by
          rw [mem_ready]
          refine ⟨?_, ops[q], Array.getElem?_eq_getElem hq, fun e he hb => ?_⟩
          · unfold Lof at hL
            have hql : q < listed.size := by omega
            simp only [Array.getD_eq_getD_getElem?, Array.getElem?_eq_getElem hql, Option.getD_some] at hL ⊢
            exact hL
          · have hlt := back q _ e (Array.getElem?_eq_getElem hq) (by simpa using he) hb
            exact ih e.on hlt (by omega)
        rw [hr] at this; simp at this
  intro fuel
  induction fuel with
  | zero =>
    intro listed a w hls hcnt d
    have hall : ∀ q, q < ops.size → Lof listed q = true := by
      intro q hq
      have h0 : (List.range ops.size).countP (fun i => !Lof listed i) = 0 := by omega
      have := List.countP_eq_zero.1 h0 q (by simpa using hq)
      simpa using this
    refine ⟨?_, hQ _ a w hall d⟩
    apply List.eq_nil_iff_forall_not_mem.2
    intro i hi
    rw [mem_ready] at hi
    obtain ⟨h1, o, h2, _⟩ := hi
    have hin : i < ops.size := (Array.getElem?_eq_some_iff.1 h2).1
    have := hall i hin
    unfold Lof at this
    have hql : i < listed.size := by omega
    simp only [Array.getD_eq_getD_getElem?, Array.getElem?_eq_getElem hql, Option.getD_some] at h1 this
    rw [h1] at this; simp at this
  | succ fuel ih =>
    intro listed a w hls hcnt d
    refine ⟨fun hr => hQ _ a w (allListed listed hls hr) d, fun i hi => ?_⟩
    rw [mem_ready] at hi
    obtain ⟨h1, o, h2, h3⟩ := hi
    have hin : i < ops.size := (Array.getElem?_eq_some_iff.1 h2).1
    have hql : i < listed.size := by omega
    have hL : Lof listed i = false := by
      unfold Lof
      simp only [Array.getD_eq_getD_getElem?, Array.getElem?_eq_getElem hql, Option.getD_some] at h1 ⊢
      exact h1
    refine step _ a w i o _ d h2 hL (fun e he hb => h3 e (by simpa using he) hb) fun a' w' d' => ?_
    have hLe : (fun q => Lof listed q || q == i) = Lof (listed.setIfInBounds i true) := by
      funext q
      unfold Lof
      by_cases e : i = q
      · subst e
        simp [hql]
      · rw [getD_set_ne false e]
        have : (q == i) = false := by simpa using Ne.symm e
        rw [this, Bool.or_false]
    rw [hLe] at d'
    refine ih _ a' w' (by simpa using hls) ?_ d'
    have := countP_lt (l := List.range ops.size) (p := fun i => !Lof listed i) (q := fun q => !Lof (listed.setIfInBounds i true) q) (i := i) ?_ (by simpa using hin) (by simp [hL]) (by rw [← hLe]; simp)
    · omega
    · intro x hx
      rw [← hLe] at hx
      simp at hx ⊢
      exact hx.1

theorem LR.drew (l : LR M H L ML w) : LR M H L ML w.drew :=
  ⟨l.len, fun i e n cs hi hL => l.loc i e n cs hi hL, l.sep1, l.sep2⟩

theorem drawn_ok (hE : C.E.Ok C.P) {id : Nat} (hS : drawOrd loc ops = some S) (ho : cSteps C loc ops S fr L H K0) (h : HR M H w) (l : LR M H L ML w) (f : FS M ML fr a.tmps)
    (hQ : ∀ fr' L' H' M' ML' a' w', K0 fr' L' H' → Behind M H L ML w fr a M' H' L' ML' w' fr' a' → Q .normal a' w') : (Code.region id ops true).wpIn (Fw ro) n C.P Q a w := by
  obtain ⟨A, T, pos, g⟩ := good_of hS
  refine wpIn_region_any hE.ord ?_
  have hL0 : ∀ q, Lof (Array.replicate ops.size false) q = false := by
    intro q
    unfold Lof
    rcases Nat.lt_or_ge q ops.size with hq | hq
    · simp [hq]
    · simp [hq]
  refine any_gen (I := JJ C loc ops A T pos S K0 M H L ML w fr a) g.back (fun lst a' w' i o K jj hi hl he hK => jj.step g hE hi hl he hK) (fun lst a' w' hall jj => ?_) ops.size _ a _ (by simp) ?_ ?_
  · obtain ⟨p, fr', L', H', M', ML', idf, j⟩ := jj
    have hp : p = ops.size := by
      rcases Nat.lt_or_ge p ops.size with h | h
      · obtain ⟨i, o, hi, hpi⟩ := g.inv p h
        have := j.t2 i o hi (hall i (op_lt hi))
        omega
      · have := j.le; omega
    subst hp
    have hrun := j.run
    rw [List.drop_of_length_le (by rw [g.slen]; exact Nat.le_refl _)] at hrun
    exact hQ fr' L' H' M' ML' a' w' hrun ⟨j.st, j.lr, ⟨j.size, fun t s hs => j.slots t s hs fun i o hi _ _ => hall i (op_lt hi)⟩, j.rel, j.suf, j.mlx, .of_eq j.defers⟩
  · have := List.countP_le_length (p := fun i => !Lof (Array.replicate ops.size false) i) (l := List.range ops.size)
    simpa using this
  · refine ⟨0, fr, L, H, M, ML, fun _ => 0, Nat.zero_le _, fun i o hi _ => ?_, fun i o hi hl => ?_, fun i q hi => ?_, ho, (Stp.drew h).toLSt ML, .refl L, .refl fr, ⟨[], by simp⟩, rfl, f.size, fun t s hs _ => f.get t s hs, l.drew, fun i o hi hlt => by omega, fun i i' o o' t t' hi hi' h1 => by omega⟩
    · rw [hL0]; simp
    · rw [hL0] at hl; simp at hl
    · rw [hL0] at hi; simp at hi

theorem reg_ok (hE : C.E.Ok C.P) {id : Nat} {draw : Bool} (ho : cReg C loc ops draw fr L H K0) (h : HR M H w) (l : LR M H L ML w) (f : FS M ML fr a.tmps)
    (hQ : ∀ fr' L' H' M' ML' a' w', K0 fr' L' H' → Behind M H L ML w fr a M' H' L' ML' w' fr' a' → Q .normal a' w') : (Code.region id ops draw).wpIn (Fw ro) n C.P Q a w := by
  unfold cReg at ho
  cases draw with
  | false => simp at ho; exact text_ok hE ho h l f hQ
  | true =>
    simp only [if_true] at ho
    split at ho
    · rename_i S hS; exact drawn_ok hE hS ho h l f hQ
    · exact ho.elim

end Go.Proofs.Ytmjonmhpfngkaaa.Zq
