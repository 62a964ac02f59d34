/- Regions whose order is drawn: every order comes to what was looked at. -/
import Derived.Test.YtmjonmhpfngkaaaZwDraw2
namespace Go.Proofs.Ytmjonmhpfngkaaa.Zq
variable {C : CEnv} {M M' M0 : Mp} {H H' H0 : Heap} {w w' w0 : World} {L L' L0 : Loc} {ML ML' ML0 : Ml} {fr fr' fr0 : CFr} {a a' a0 : Act} {ro : Option Nat} {n : Nat} {Q : Exit → Act → World → Prop} {Kw : Act → World → Prop} {loc : List Nat}
  {ops : Array Oper} {A : Nat → Nat → Prop} {T : Nat → Prop} {pos : Nat → Nat} {S : List Step} {K0 : CFr → Loc → Heap → Prop} {lst : Nat → Bool} {p : Nat} {idf : Nat → Nat}

def Wan (ops : Array Oper) (o : Oper) (fr : CFr) : Prop := o.guard = none ∨ ∃ j want d, o.guard = some (j, want) ∧ (ops[j]?).bind (·.dst) = some d ∧ cget fr.l d = some (.v (.bool want))
def Unw (ops : Array Oper) (o : Oper) (fr : CFr) : Prop := ∃ j want, o.guard = some (j, want) ∧ ((ops[j]?).bind (·.dst) = none ∨ ∃ d v, (ops[j]?).bind (·.dst) = some d ∧ cget fr.l d = some (.v v) ∧ wantB v want = false)

theorem cget_put {d : Nat} {s : Sv} {t : Nat} : cget (fr.put d s).l t = if d = t then some s else cget fr.l t := rfl
theorem put_again {d : Nat} {s : Sv} (h : cget fr.l d = some s) (t : Nat) : cget (fr.put d s).l t = cget fr.l t := by
  rw [cget_put]; split
  · rename_i e; subst e; exact h.symm
  · rfl

theorem cOper_split {o : Oper} {K : CFr → Loc → Heap → Prop} (h : cOper C loc ops o fr L H K) : cPutOk fr o.dst = true ∧ ∃ fr1, Suf fr fr1 ∧ (∀ t, cget fr1.l t = cget fr.l t) ∧
    ((Unw ops o fr ∧ K (fr1.put? o.dst (.v undef)) L H) ∨ (Wan ops o fr ∧ cOp C loc o.dst o.type o.op fr1 L H fun s L H => K (fr1.put? o.dst s) L H)) := by
  unfold cOper at h
  split at h
  · rename_i hp
    refine ⟨hp, ?_⟩
    split at h
    · rename_i hg
      exact ⟨fr, .refl fr, fun _ => rfl, .inr ⟨.inl hg, h⟩⟩
    · rename_i j want hg
      split at h
      · rename_i hd
        exact ⟨fr, .refl fr, fun _ => rfl, .inl ⟨⟨j, want, hg, .inl hd⟩, h⟩⟩
      · rename_i d hd
        split at h
        · rename_i g hgd
          cases g with
          | true =>
            simp only [ifB] at h
            refine ⟨_, .put fr d (.v (.bool true)), put_again hgd, ?_⟩
            cases want with
            | true => simp only [if_true] at h; exact .inr ⟨.inr ⟨j, true, d, hg, hd, hgd⟩, h⟩
            | false => simp at h; exact .inl ⟨⟨j, false, hg, .inr ⟨d, _, hd, hgd, rfl⟩⟩, h⟩
          | false =>
            simp only [ifB] at h
            refine ⟨_, .put fr d (.v (.bool false)), put_again hgd, ?_⟩
            cases want with
            | true => simp at h; exact .inl ⟨⟨j, true, hg, .inr ⟨d, _, hd, hgd, rfl⟩⟩, h⟩
            | false => simp only [if_true] at h; exact .inr ⟨.inr ⟨j, false, d, hg, hd, hgd⟩, h⟩
        · rename_i xs hgd
          exact ⟨fr, .refl fr, fun _ => rfl, .inl ⟨⟨j, want, hg, .inr ⟨d, _, hd, hgd, rfl⟩⟩, h⟩⟩
        · exact h.elim
  · exact h.elim

/-- One that was looked at and has not run yet. -/
def Pend (C : CEnv) (loc : List Nat) (ops : Array Oper) (fr : CFr) (L : Loc) (H : Heap) (ML0 ML : Ml) (id : Nat) (o : Oper) : Prop :=
  cPutOk fr o.dst = true ∧ ((Unw ops o fr ∧ ∀ d, o.dst = some d → cget fr.l d = some (.v undef)) ∨
    (Wan ops o fr ∧ ((∃ t ti m, o.op = .alloc t ∧ C.E.ty t = some ti ∧ (∀ d, o.dst = some d → cget fr.l d = some (.lp id 0)) ∧ ML0.length ≤ id ∧ ML[id]? = some none ∧ L[id]? = some (m, ti.zero)) ∨
      (∃ s, (∀ d, o.dst = some d → cget fr.l d = some s) ∧ turns o.op = false ∧ Vals C loc o.dst o.type o.op fr L H s))))

structure J (C : CEnv) (loc : List Nat) (ops : Array Oper) (A : Nat → Nat → Prop) (T : Nat → Prop) (pos : Nat → Nat) (S : List Step) (K0 : CFr → Loc → Heap → Prop) (M0 : Mp) (H0 : Heap) (L0 : Loc) (ML0 : Ml) (w0 : World) (fr0 : CFr) (a0 : Act)
    (lst : Nat → Bool) (p : Nat) (fr : CFr) (L : Loc) (H : Heap) (M : Mp) (ML : Ml) (idf : Nat → Nat) (a : Act) (w : World) : Prop where
  le : p ≤ ops.size
  t1 : ∀ (i : Nat) (o : Oper), ops[i]? = some o → T i → (lst i = true ↔ pos i < p)
  t2 : ∀ (i : Nat) (o : Oper), ops[i]? = some o → lst i = true → pos i < p
  cl : ∀ i j, lst i = true → A i j → lst j = true
  run : cSteps C loc ops (S.drop p) fr L H K0
  st : LSt M0 H0 ML0 w0 M H ML w
  rel : LRel L0 L
  suf : Suf fr0 fr
  mlx : ∃ N, ML = ML0 ++ N
  defers : a.defers = a0.defers
  size : a.tmps.size = fr.n
  slots : ∀ t s, cget fr.l t = some s → (∀ (i : Nat) (o : Oper), ops[i]? = some o → o.dst = some t → pos i < p → lst i = true) → SvR M ML s (a.tmps.getD t undef)
  lr : LR M H L ML w
  pend : ∀ (i : Nat) (o : Oper), ops[i]? = some o → pos i < p → lst i = false → Pend C loc ops fr L H ML0 ML (idf i) o
  ids : ∀ (i i' : Nat) (o o' : Oper) (t t' : TypeId), ops[i]? = some o → ops[i']? = some o' → pos i < p → pos i' < p → lst i = false → lst i' = false → o.op = .alloc t → o'.op = .alloc t' → Wan ops o fr → Wan ops o' fr → idf i = idf i' → i = i'

theorem vals_congr {o : Oper} {s : Sv} (h : ∀ t, t ∈ useOf ops o → cget fr'.l t = cget fr.l t) (hv : Vals C loc o.dst o.type o.op fr L H s) : Vals C loc o.dst o.type o.op fr' L H s := by
  unfold Vals at *
  rw [cOp_congr (fr' := fr) fun t ht => h t ?_]
  · exact hv
  · unfold useOf tmpsOf; simp only [List.mem_append, List.mem_filterMap]; exact .inl ⟨_, ht, rfl⟩
theorem guard_use {o : Oper} {j : Nat} {want : Bool} {d : Nat} (hg : o.guard = some (j, want)) (hd : (ops[j]?).bind (·.dst) = some d) : d ∈ useOf ops o := by
  unfold useOf; rw [hg]; simp [hd]
theorem Wan.congr {o : Oper} (h : ∀ t, t ∈ useOf ops o → cget fr'.l t = cget fr.l t) (hw : Wan ops o fr) : Wan ops o fr' := by
  rcases hw with hg | ⟨j, want, d, hg, hd, hc⟩
  · exact .inl hg
  · exact .inr ⟨j, want, d, hg, hd, by rw [h d (guard_use hg hd)]; exact hc⟩
theorem Unw.congr {o : Oper} (h : ∀ t, t ∈ useOf ops o → cget fr'.l t = cget fr.l t) (hw : Unw ops o fr) : Unw ops o fr' := by
  obtain ⟨j, want, hg, hh⟩ := hw
  refine ⟨j, want, hg, ?_⟩
  rcases hh with hd | ⟨d, v, hd, hc, he⟩
  · exact .inl hd
  · exact .inr ⟨d, v, hd, by rw [h d (guard_use hg hd)]; exact hc, he⟩
theorem Wan.not {o : Oper} (h : Wan ops o fr) (k : Unw ops o fr) : False := by
  obtain ⟨j, want, hg, hh⟩ := k
  rcases h with h | ⟨j', want', d', hg', hd', hc'⟩
  · rw [h] at hg; simp at hg
  · rw [hg'] at hg; simp at hg; obtain ⟨rfl, rfl⟩ := hg
    rcases hh with hd | ⟨d, v, hd, hc, he⟩
    · rw [hd'] at hd; simp at hd
    · rw [hd'] at hd; simp at hd; subst hd
      rw [hc'] at hc; simp at hc; subst hc
      simp [wantB] at he

theorem op_lt {i : Nat} {o : Oper} (hi : ops[i]? = some o) : i < ops.size := (Array.getElem?_eq_some_iff.1 hi).1

/-- One that turns nothing is looked at. -/
theorem J.adv1 (g : Good loc ops A T pos S) (j : J C loc ops A T pos S K0 M0 H0 L0 ML0 w0 fr0 a0 lst p fr L H M ML idf a w) {i : Nat} {o : Oper} (hi : ops[i]? = some o) (hp : pos i = p) (hT : ¬ T i) (hl : lst i = false) :
    ∃ fr' L' ML' idf', J C loc ops A T pos S K0 M0 H0 L0 ML0 w0 fr0 a0 lst (p + 1) fr' L' H M ML' idf' a w := by
  obtain ⟨as, hS, has, _⟩ := g.sat i o hi
  have := has hT; subst this
  rw [hp] at hS
  have hlt : p < ops.size := by rw [← hp]; exact g.lt i o hi
  have hdrop : S.drop p = ⟨i, o, []⟩ :: S.drop (p + 1) := by
    obtain ⟨h1, h2⟩ := List.getElem?_eq_some_iff.1 hS
    rw [List.drop_eq_getElem_cons h1, h2]
  have hrun := j.run
  rw [hdrop] at hrun
  simp only [cSteps, cAsks] at hrun
  obtain ⟨hput, fr1, hs1, hc1, hcase⟩ := cOper_split hrun
  -- who has its place at p is i alone
  have hone : ∀ (q : Nat) (oq : Oper), ops[q]? = some oq → pos q < p + 1 → pos q < p ∨ q = i := fun q oq hq hlt => by
    by_cases e : pos q = p
    · exact .inr (g.inj q i (op_lt hq) (op_lt hi) (e.trans hp.symm))
    · exact .inl (by omega)
  -- no pending one looks at what i writes
  have hnouse : ∀ (q : Nat) (oq : Oper) (d : Nat), ops[q]? = some oq → pos q < p + 1 → o.dst = some d → d ∉ useOf ops oq := fun q oq d hq hlt hd hmem => by
    rcases g.use q oq d i o hq hmem hi hd with hA | ⟨hTi, _⟩
    · have := g.ord q i (op_lt hq) (op_lt hi) hA
      omega
    · exact hT hTi
  have huse : ∀ (s : Sv) (q : Nat) (oq : Oper), ops[q]? = some oq → pos q < p + 1 → ∀ t, t ∈ useOf ops oq → cget (fr1.put? o.dst s).l t = cget fr.l t := fun s q oq hq hlt t ht => by
    cases hd : o.dst with
    | none => exact hc1 t
    | some d =>
      show cget (fr1.put d s).l t = _
      rw [cget_put, if_neg (fun e => hnouse q oq d hq hlt hd (by rw [e]; exact ht))]
      exact hc1 t
  have hdstne : ∀ (s : Sv) (q : Nat) (oq : Oper) (d : Nat), ops[q]? = some oq → q ≠ i → oq.dst = some d → cget (fr1.put? o.dst s).l d = cget fr.l d := fun s q oq d hq hne hdq => by
    cases hd : o.dst with
    | none => exact hc1 d
    | some d' =>
      show cget (fr1.put d' s).l d = _
      rw [cget_put, if_neg (fun e => hne (g.dsts q i oq o d hq hi hdq (by rw [hd, e])))]
      exact hc1 d
  have hself : ∀ (s : Sv) (d : Nat), o.dst = some d → cget (fr1.put? o.dst s).l d = some s := fun s d hd => by
    rw [hd]; show cget (fr1.put d s).l d = _
    rw [cget_put, if_pos rfl]
  have hn : ∀ s : Sv, (fr1.put? o.dst s).n = fr.n := fun s => ((hs1.trans (.put? _ _ _)).1)
  have hputn : ∀ (s : Sv) (oq : Oper), cPutOk fr oq.dst = true → cPutOk (fr1.put? o.dst s) oq.dst = true := fun s oq h => by unfold cPutOk at h ⊢; rw [hn s]; exact h
  -- slots that are known stay so: what i writes is not asked for, for it has not run
  have hslots : ∀ (s : Sv) (ML2 : Ml), (∃ N, ML2 = ML ++ N) → ∀ t s', cget (fr1.put? o.dst s).l t = some s' → (∀ (q : Nat) (oq : Oper), ops[q]? = some oq → oq.dst = some t → pos q < p + 1 → lst q = true) → SvR M ML2 s' (a.tmps.getD t undef) := by
    intro s ML2 hML t s' hs' hall
    have hne : o.dst ≠ some t := fun hd => by
      have := hall i o hi hd (by omega)
      rw [hl] at this; simp at this
    have hold : cget fr.l t = some s' := by
      cases hd : o.dst with
      | none => rw [hd] at hs'; rw [← hc1 t]; exact hs'
      | some d =>
        rw [hd] at hs'
        have hs2 : cget (fr1.put d s).l t = some s' := hs'
        rw [cget_put, if_neg (fun e => hne (by rw [hd, e]))] at hs2
        rw [← hc1 t]; exact hs2
    obtain ⟨N, rfl⟩ := hML
    exact (j.slots t s' hold fun q oq hq hdq hlt => hall q oq hq hdq (by omega)).app
  have ht1 : ∀ (q : Nat) (oq : Oper), ops[q]? = some oq → T q → (lst q = true ↔ pos q < p + 1) := fun q oq hq hTq => by
    rw [j.t1 q oq hq hTq]
    constructor
    · intro h; omega
    · intro h
      rcases hone q oq hq h with h | h
      · exact h
      · exact absurd (h ▸ hTq) hT
  have hpend : ∀ (s : Sv) (L2 : Loc) (ML2 : Ml) (idf2 : Nat → Nat), (∀ q, q ≠ i → idf2 q = idf q) → (∀ k : Nat, ML[k]? = some none → ML2[k]? = some none ∧ L2[k]? = L[k]?) → (∀ (oq : Oper) (s : Sv), turns oq.op = false → Vals C loc oq.dst oq.type oq.op fr L H s → Vals C loc oq.dst oq.type oq.op fr L2 H s) →
      ∀ (q : Nat) (oq : Oper), ops[q]? = some oq → pos q < p + 1 → lst q = false → q ≠ i → Pend C loc ops (fr1.put? o.dst s) L2 H ML0 ML2 (idf2 q) oq := by
    intro s L2 ML2 idf2 hidf hk hv q oq hq hlt hlq hne
    have hq' : pos q < p := (hone q oq hq hlt).resolve_right hne
    obtain ⟨h1, h2⟩ := j.pend q oq hq hq' hlq
    rw [hidf q hne]
    refine ⟨hputn s oq h1, ?_⟩
    rcases h2 with ⟨h2, h3⟩ | ⟨h2, h3⟩
    · exact .inl ⟨h2.congr (huse s q oq hq hlt), fun d hd => by rw [hdstne s q oq d hq hne hd]; exact h3 d hd⟩
    · refine .inr ⟨h2.congr (huse s q oq hq hlt), ?_⟩
      rcases h3 with ⟨t, ti, m, e1, e2, e3, e4, e5, e6⟩ | ⟨s', e1, e2, e3⟩
      · obtain ⟨k1, k2⟩ := hk _ e5
        exact .inl ⟨t, ti, m, e1, e2, fun d hd => by rw [hdstne s q oq d hq hne hd]; exact e3 d hd, e4, k1, by rw [k2]; exact e6⟩
      · exact .inr ⟨s', fun d hd => by rw [hdstne s q oq d hq hne hd]; exact e1 d hd, e2, vals_congr (huse s q oq hq hlt) (hv oq s' e2 e3)⟩
  have hids : ∀ (s : Sv) (idf2 : Nat → Nat), (∀ q, q ≠ i → idf2 q = idf q) → (∀ (q : Nat) (oq : Oper) (t : TypeId), ops[q]? = some oq → q ≠ i → pos q < p → lst q = false → oq.op = .alloc t → Wan ops oq fr → (∃ t', o.op = .alloc t') → Wan ops o (fr1.put? o.dst s) → idf2 i ≠ idf q) →
      ∀ (q q' : Nat) (oq oq' : Oper) (t t' : TypeId), ops[q]? = some oq → ops[q']? = some oq' → pos q < p + 1 → pos q' < p + 1 → lst q = false → lst q' = false → oq.op = .alloc t → oq'.op = .alloc t' → Wan ops oq (fr1.put? o.dst s) → Wan ops oq' (fr1.put? o.dst s) → idf2 q = idf2 q' → q = q' := by
    intro s idf2 hidf hnew q q' oq oq' t t' hq hq' h1 h2 h3 h4 h5 h6 h7 h8 he
    by_cases e1 : q = i
    · by_cases e2 : q' = i
      · rw [e1, e2]
      · exfalso
        subst e1
        rw [hi] at hq; simp at hq; subst hq
        rw [hidf q' e2] at he
        exact hnew q' oq' t' hq' e2 ((hone q' oq' hq' h2).resolve_right e2) h4 h6 (h8.congr fun t ht => (huse s q' oq' hq' h2 t ht).symm) ⟨t, h5⟩ h7 he
    · by_cases e2 : q' = i
      · exfalso
        subst e2
        rw [hi] at hq'; simp at hq'; subst hq'
        rw [hidf q e1] at he
        exact hnew q oq t hq e1 ((hone q oq hq h1).resolve_right e1) h3 h5 (h7.congr fun t ht => (huse s q oq hq h1 t ht).symm) ⟨t', h6⟩ h8 he.symm
      · rw [hidf q e1, hidf q' e2] at he
        exact j.ids q q' oq oq' t t' hq hq' ((hone q oq hq h1).resolve_right e1) ((hone q' oq' hq' h2).resolve_right e2) h3 h4 h5 h6 (h7.congr fun t ht => (huse s q oq hq h1 t ht).symm)
          (h8.congr fun t ht => (huse s q' oq' hq' h2 t ht).symm) he
  have hvals0 : ∀ (oq : Oper) (s : Sv), turns oq.op = false → Vals C loc oq.dst oq.type oq.op fr L H s → Vals C loc oq.dst oq.type oq.op fr L H s := fun _ _ _ h => h
  rcases hcase with ⟨hu, hk⟩ | ⟨hw, hop⟩
  · -- not wanted
    refine ⟨fr1.put? o.dst (.v undef), L, ML, idf, by omega, ht1, fun q oq hq hlq => by have := j.t2 q oq hq hlq; omega, j.cl, hk, j.st, j.rel, j.suf.trans (hs1.trans (.put? _ _ _)), j.mlx, j.defers, by rw [j.size, hn], hslots _ ML ⟨[], by simp⟩, j.lr, fun q oq hq hlt hlq => ?_,
      hids _ idf (fun _ _ => rfl) fun q oq t hq hne hlt hlq ho hwq _ hwi => (hwi.not (hu.congr (huse _ i o hi (by omega)))).elim⟩
    by_cases e : q = i
    · subst e
      rw [hi] at hq; simp at hq; subst hq
      exact ⟨hputn _ o hput, .inl ⟨hu.congr (huse _ q o hi (by omega)), fun d hd => hself _ d hd⟩⟩
    · exact hpend _ L ML idf (fun _ _ => rfl) (fun k hk => ⟨hk, rfl⟩) hvals0 q oq hq hlt hlq e
  · by_cases hfl : isFl loc o = true
    · -- a local's making
      unfold isFl at hfl
      cases hoop : o.op with
      | alloc t =>
        rw [hoop] at hfl hop
        simp only at hfl
        simp only [cOp] at hop
        split at hop
        · rename_i ti hti
          rw [if_pos hfl] at hop
          have hlen := j.lr.len
          have hkeep : ∀ k : Nat, ML[k]? = some none → (ML ++ [none])[k]? = some none ∧ (L ++ [(0, ti.zero)])[k]? = L[k]? := fun k hk => by
            have h1 := (List.getElem?_eq_some_iff.1 hk).1
            exact ⟨by rw [List.getElem?_append_left h1]; exact hk, by rw [List.getElem?_append_left (by omega)]⟩
          refine ⟨_, L ++ [(0, ti.zero)], ML ++ [none], fun q => if q = i then L.length else idf q, by omega, ht1, fun q oq hq hlq => by have := j.t2 q oq hq hlq; omega, j.cl, hop, ⟨j.st.st, fun q e hq => ?_⟩, j.rel.trans (.app _ _),
            j.suf.trans (hs1.trans (.put? _ _ _)), ?_, j.defers, by rw [j.size, hn], hslots _ _ ⟨_, rfl⟩, j.lr.keep _, fun q oq hq hlt hlq => ?_, hids _ _ (fun q hq => by simp [hq]) fun q oq t' hq hne hlt hlq ho hwq _ _ => ?_⟩
          · refine j.st.mx q e ?_
            by_cases h : q < ML.length
            · rw [List.getElem?_append_left h] at hq; exact hq
            · rw [List.getElem?_append_right (by omega)] at hq
              cases hx : q - ML.length with
              | zero => rw [hx] at hq; simp at hq
              | succ x => rw [hx] at hq; simp at hq
          · obtain ⟨N, hN⟩ := j.mlx
            exact ⟨N ++ [none], by rw [hN, List.append_assoc]⟩
          · by_cases e : q = i
            · subst e
              rw [hi] at hq; simp at hq; subst hq
              refine ⟨hputn _ o hput, .inr ⟨hw.congr (huse _ q o hi (by omega)), .inl ⟨t, ti, 0, hoop, hti, fun d hd => by simpa using hself _ d hd, ?_, ?_, ?_⟩⟩⟩
              · obtain ⟨N, hN⟩ := j.mlx
                simp only [if_true]
                rw [← hlen, hN]; simp
              · simp only [if_true]; rw [← hlen]; simp
              · simp
            · exact hpend _ _ _ (fun q => if q = i then L.length else idf q) (fun q hq => if_neg hq) hkeep (fun oq s h1 h2 => vals_app h1 h2) q oq hq hlt hlq e
          · have hp1 := j.pend q oq hq hlt hlq
            simp only [if_true]
            rcases hp1.2 with ⟨hu, _⟩ | ⟨_, ⟨t2, ti2, m, e1, e2, e3, e4, e5, e6⟩ | ⟨s', e1, e2, e3⟩⟩
            · exact (hwq.not hu).elim
            · have := (List.getElem?_eq_some_iff.1 e6).1
              omega
            · rw [ho] at e2; simp [turns] at e2
        · exact hop.elim
      | _ => rw [hoop] at hfl; simp at hfl
    · have htu : turns o.op = false := (g.nt i o hi hT).resolve_left hfl
      obtain ⟨s, hv, hk⟩ := cOp_vals htu hop
      refine ⟨fr1.put? o.dst s, L, ML, idf, by omega, ht1, fun q oq hq hlq => by have := j.t2 q oq hq hlq; omega, j.cl, hk, j.st, j.rel, j.suf.trans (hs1.trans (.put? _ _ _)), j.mlx, j.defers, by rw [j.size, hn], hslots _ ML ⟨[], by simp⟩, j.lr, fun q oq hq hlt hlq => ?_,
        hids _ idf (fun _ _ => rfl) fun q oq t hq hne hlt hlq ho hwq he _ => by obtain ⟨t', he⟩ := he; rw [he] at htu; simp [turns] at htu⟩
      by_cases e : q = i
      · subst e
        rw [hi] at hq; simp at hq; subst hq
        refine ⟨hputn _ o hput, .inr ⟨hw.congr (huse _ q o hi (by omega)), .inr ⟨s, fun d hd => hself _ d hd, htu, ?_⟩⟩⟩
        exact vals_congr (huse _ q o hi (by omega)) (vals_congr (ops := ops) (fr := fr1) (fun t _ => (hc1 t).symm) hv)
      · exact hpend _ L ML idf (fun _ _ => rfl) (fun k hk => ⟨hk, rfl⟩) hvals0 q oq hq hlt hlq e

end Go.Proofs.Ytmjonmhpfngkaaa.Zq
