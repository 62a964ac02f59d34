/- Regions whose order is drawn: every order comes to what was looked at; second part. -/
import Derived.Test.YtmjonmhpfngkaaaZwDraw3
namespace Go.Proofs.Ytmjonmhpfngkaaa.Zq
variable {C : CEnv} {M M' M0 : Mp} {H H' H0 : Heap} {w w' w0 : World} {L L' L0 : Loc} {ML ML' ML0 : Ml} {fr fr' fr0 : CFr} {a a' a0 : Act} {ro : Option Nat} {n : Nat} {Q : Exit → Act → World → Prop} {Kw : Act → World → Prop} {loc : List Nat}
  {ops : Array Oper} {A : Nat → Nat → Prop} {T : Nat → Prop} {pos : Nat → Nat} {S : List Step} {K0 : CFr → Loc → Heap → Prop} {lst : Nat → Bool} {p : Nat} {idf : Nat → Nat}

/-- The slots that an operation looks at, alone. -/
def useFr (ops : Array Oper) (o : Oper) (fr : CFr) : CFr := ⟨fr.n, (useOf ops o).map fun t => (t, cget fr.l t)⟩
theorem cget_map : ∀ {l : List Nat} {t : Nat} {f : Nat → Option Sv}, cget (l.map fun t => (t, f t)) t = if t ∈ l then f t else none
  | [], t, f => by simp [cget]
  | x :: r, t, f => by
    simp only [List.map_cons, cget, cget_map (l := r)]
    by_cases h : x = t
    · subst h; simp
    · rw [if_neg h]
      have : t ∈ x :: r ↔ t ∈ r := by simp [Ne.symm h]
      simp only [this]
theorem useFr_get {o : Oper} {t : Nat} (h : t ∈ useOf ops o) : cget (useFr ops o fr).l t = cget fr.l t := by unfold useFr; rw [cget_map, if_pos h]
theorem useFr_fs {o : Oper} (hs : a.tmps.size = fr.n) (h : ∀ t s, t ∈ useOf ops o → cget fr.l t = some s → SvR M ML s (a.tmps.getD t undef)) : FS M ML (useFr ops o fr) a.tmps :=
  ⟨hs, fun t s hg => by
    unfold useFr at hg; rw [cget_map] at hg
    split at hg
    · rename_i hm; exact h t s hm hg
    · simp at hg⟩
theorem wan_ok {o : Oper} (h : Wan ops o fr) (hs : ∀ t s, t ∈ useOf ops o → cget fr.l t = some s → SvR M ML s (a.tmps.getD t undef)) : Region.wanted o (yielded ops a.tmps) = true := by
  rcases h with hg | ⟨j, want, d, hg, hd, hc⟩
  · exact cWanted0 hg
  · rw [cWanted hg hd (hs d _ (guard_use hg hd) hc)]; simp [wantB]
theorem unw_ok {o : Oper} (h : Unw ops o fr) (hs : ∀ t s, t ∈ useOf ops o → cget fr.l t = some s → SvR M ML s (a.tmps.getD t undef)) : Region.wanted o (yielded ops a.tmps) = false := by
  obtain ⟨j, want, hg, hh⟩ := h
  rcases hh with hd | ⟨d, v, hd, hc, he⟩
  · exact cWantedN hg hd
  · rw [cWanted hg hd (hs d _ (guard_use hg hd) hc)]; exact he

theorem putD_ne {d : Option Nat} {u : Value} {t : Nat} (h : d ≠ some t) : (a.put d u).tmps.getD t undef = a.tmps.getD t undef := put_getD h
theorem putD_eq {u : Value} {t : Nat} (h : t < a.tmps.size) : (a.put (some t) u).tmps.getD t undef = u := put_getD' h
theorem put_size (a : Act) (d : Option Nat) (u : Value) : (a.put d u).tmps.size = a.tmps.size := by cases d <;> simp [Act.put]

theorem SvR.mono2 {s : Sv} {u : Value} (h : SvR M ML s u) (x : Ext M M') (e : ∃ N, ML' = ML ++ N) : SvR M' ML' s u := by
  obtain ⟨N, rfl⟩ := e
  exact (h.mono x).app

/-- The slots that the next one looks at are known. -/
theorem J.sees (g : Good loc ops A T pos S) (j : J C loc ops A T pos S K0 M0 H0 L0 ML0 w0 fr0 a0 lst p fr L H M ML idf a w) {i : Nat} {o : Oper} (hi : ops[i]? = some o) (hA : ∀ q, A i q → lst q = true) :
    ∀ t s, t ∈ useOf ops o → cget fr.l t = some s → SvR M ML s (a.tmps.getD t undef) := fun t s ht hc =>
  j.slots t s hc fun q oq hq hd hlt => by
    rcases g.use i o t q oq hi ht hq hd with h | ⟨hT, _⟩
    · exact hA q h
    · exact (j.t1 q oq hq hT).2 hlt

theorem useFr_cOp {o : Oper} {k : Sv → Loc → Heap → Prop} {fr1 : CFr} (h1 : ∀ t, cget fr1.l t = cget fr.l t) (h : cOp C loc o.dst o.type o.op fr1 L H k) : cOp C loc o.dst o.type o.op (useFr ops o fr) L H k := by
  rw [cOp_congr (fr' := fr1) fun t ht => ?_]
  · exact h
  · rw [useFr_get (by unfold useOf tmpsOf; simp only [List.mem_append, List.mem_filterMap]; exact .inl ⟨_, ht, rfl⟩), h1 t]

/-- One that was looked at runs. -/
theorem J.exP (g : Good loc ops A T pos S) (hE : C.E.Ok C.P) (j : J C loc ops A T pos S K0 M0 H0 L0 ML0 w0 fr0 a0 lst p fr L H M ML idf a w) {i : Nat} {o : Oper} (hi : ops[i]? = some o) (hp : pos i < p) (hT : ¬ T i) (hl : lst i = false) (hA : ∀ q, A i q → lst q = true)
    (hK : ∀ M' ML' a' w', J C loc ops A T pos S K0 M0 H0 L0 ML0 w0 fr0 a0 (fun q => lst q || q == i) p fr L H M' ML' idf a' w' → Kw a' w') : wpOpIn (Fw ro) n C.P ops Q i Kw a w := by
  obtain ⟨hput, hcase⟩ := j.pend i o hi hp hl
  have hsee := j.sees g hi hA
  -- what stands behind it, whatever it was
  have fin : ∀ (M' : Mp) (ML' : Ml) (w' : World) (u : Value), LSt M H ML w M' H ML' w' → LR M' H L ML' w' → (∃ N, ML' = ML0 ++ N) → (∀ s u, SvR M ML s u → SvR M' ML' s u) → (∀ d, o.dst = some d → ∃ s, cget fr.l d = some s ∧ SvR M' ML' s u) →
      (∀ (q : Nat) (oq : Oper), ops[q]? = some oq → pos q < p → lst q = false → q ≠ i → ∀ t, oq.op = .alloc t → Wan ops oq fr → ML'[idf q]? = some none) →
      J C loc ops A T pos S K0 M0 H0 L0 ML0 w0 fr0 a0 (fun q => lst q || q == i) p fr L H M' ML' idf (a.put o.dst u) w' := by
    intro M' ML' w' u hst hlr hmlx hsv hdst hkeep
    refine ⟨j.le, fun q oq hq hTq => ?_, fun q oq hq hlq => ?_, fun x y hx hxy => ?_, j.run, j.st.trans hst, j.rel, j.suf, hmlx, by rw [put_defers]; exact j.defers, by rw [put_size]; exact j.size, fun t s hs hall => ?_, hlr, fun q oq hq hlt hlq => ?_,
      fun q q' oq oq' t t' hq hq' h1 h2 h3 h4 => ?_⟩
    · have hne : q ≠ i := fun e => hT (e ▸ hTq)
      have : (q == i) = false := by simpa using hne
      simp only [this, Bool.or_false]
      exact j.t1 q oq hq hTq
    · simp only [Bool.or_eq_true, beq_iff_eq] at hlq
      rcases hlq with h | h
      · exact j.t2 q oq hq h
      · subst h; exact hp
    · simp only [Bool.or_eq_true, beq_iff_eq] at hx ⊢
      rcases hx with h | h
      · exact .inl (j.cl x y h hxy)
      · subst h; exact .inl (hA y hxy)
    · by_cases e : o.dst = some t
      · obtain ⟨s', c1, c2⟩ := hdst t e
        rw [hs] at c1; simp at c1; subst c1
        have hlt : t < a.tmps.size := by
          have hput' := hput
          unfold cPutOk at hput'
          rw [e] at hput'
          rw [j.size]; simpa using hput'
        rw [e, putD_eq hlt]; exact c2
      · rw [putD_ne e]
        exact hsv s _ (j.slots t s hs fun q oq hq hd hlt => by
          have := hall q oq hq hd hlt
          simp only [Bool.or_eq_true, beq_iff_eq] at this
          rcases this with h | h
          · exact h
          · subst h; rw [hi] at hq; simp at hq; subst hq; exact absurd hd e)
    · simp only [Bool.or_eq_false_iff, beq_eq_false_iff_ne] at hlq
      obtain ⟨h1, h2⟩ := j.pend q oq hq hlt hlq.1
      refine ⟨h1, ?_⟩
      rcases h2 with h2 | ⟨h2, h3⟩
      · exact .inl h2
      · refine .inr ⟨h2, ?_⟩
        rcases h3 with ⟨t, ti, m, e1, e2, e3, e4, e5, e6⟩ | h3
        · exact .inl ⟨t, ti, m, e1, e2, e3, e4, hkeep q oq hq hlt hlq.1 hlq.2 t e1 h2, e6⟩
        · exact .inr h3
    · simp only [Bool.or_eq_false_iff] at h3 h4
      exact j.ids q q' oq oq' t t' hq hq' h1 h2 h3.1 h4.1
  have hkeep0 : ∀ (q : Nat) (oq : Oper), ops[q]? = some oq → pos q < p → lst q = false → ∀ t, oq.op = .alloc t → Wan ops oq fr → ML[idf q]? = some none := fun q oq hq hlt hlq t ho hw => by
    obtain ⟨_, h2⟩ := j.pend q oq hq hlt hlq
    rcases h2 with ⟨hu, _⟩ | ⟨_, ⟨t2, ti, m, e1, e2, e3, e4, e5, e6⟩ | ⟨s, e1, e2, e3⟩⟩
    · exact (hw.not hu).elim
    · exact e5
    · rw [ho] at e2; simp [turns] at e2
  unfold wpOpIn
  rw [hi]
  simp only
  rcases hcase with ⟨hu, hd⟩ | ⟨hw, hval⟩
  · rw [unw_ok hu hsee]
    refine ⟨fun _ _ => trivial, hK M ML _ w (fin M ML w undef (.refl j.st.st.hr ML) j.lr j.mlx (fun _ _ h => h) (fun d he => ⟨_, hd d he, VR.undef M⟩) fun q oq hq hlt hlq _ t ho hwq => hkeep0 q oq hq hlt hlq t ho hwq)⟩
  · rw [wan_ok hw hsee]
    rcases hval with ⟨t, ti, m, e1, e2, e3, e4, e5, e6⟩ | ⟨s, e1, e2, e3⟩
    · obtain ⟨c, q1, q2, q3⟩ := alloc_run (M := M) (w := w) hE e2
      obtain ⟨f1, f2⟩ := j.lr.fill j.st.st.hr t ti.size e5 e6 q2 q3
      have hid := (List.getElem?_eq_some_iff.1 e5).1
      obtain ⟨dst, op, ty, ps, after, guard⟩ := o
      simp only at e1; subst e1
      refine wp_of_run (s := Instr.alloc t true (.tuple #[])) (fun c => by simp) rfl q1 (hK M _ _ _ (fin M _ _ _ f1 f2 ?_ (fun _ _ h => h.fill e5) (fun d he => ⟨_, e3 d he, _, List.getElem?_set_self hid, rfl⟩) fun q oq hq hlt hlq hne t' ho hwq => ?_))
      · obtain ⟨N, hN⟩ := j.mlx
        refine ⟨N.set (idf i - ML0.length) (some ⟨w.heap.size, 0, false, ti.zero.length, ti.size, c.size⟩), ?_⟩
        rw [hN, List.set_append, if_neg (by omega)]
      · have hidne : idf i ≠ idf q := fun e => hne (j.ids i q _ oq t t' hi hq hp hlt hl hlq rfl ho hw hwq e).symm
        rw [List.getElem?_set_ne hidne]
        exact hkeep0 q oq hq hlt hlq t' ho hwq
    · have hop := useFr_cOp (ops := ops) (fr := fr) (fun _ => rfl) e3
      exact cOp_ok (ro := ro) (n := n) (Q := Q) (pos := o.pos) (after := o.after) (guard := o.guard) hE j.st.st.hr j.lr (useFr_fs j.size hsee) hop fun s' L' H' M' ML' w' u hk ha hu => by
        obtain ⟨rfl, rfl, rfl⟩ := hk
        obtain ⟨h1, h2, _, _, ⟨N, hN⟩, _⟩ := ha
        have hN0 : N = [] := by
          have l1 := h2.len
          have l2 := j.lr.len
          rw [hN] at l1; simp at l1
          exact List.length_eq_zero_iff.1 (by omega)
        subst hN0
        simp at hN; subst hN
        exact hK M' _ _ w' (fin M' _ w' u h1 h2 j.mlx (fun _ _ h => h.mono h1.st.ext) (fun d he => ⟨_, e1 d he, hu⟩) fun q oq hq hlt hlq _ t ho hwq => hkeep0 q oq hq hlt hlq t ho hwq)

/-! ### Those that turn something -/
def Asked (C : CEnv) (ops : Array Oper) (fr : CFr) (L : Loc) (H : Heap) (o : Oper) : Prop :=
  Wan ops o fr → match o.op, o.dst with
    | .load t x, some d => match opS fr x, cget fr.l d, C.E.ty t with
      | some (.v (.pointer (some ⟨b, off, none⟩))), some (.v v), some _ => LD (C.tag t) H b off fun x => (C.tag t).enc x = v
      | some (.lp i off), some (.v v), some ti => match L[i]? with
        | some (_, cs) => off + ti.size ≤ cs.length ∧ ofCells ti.k ((cs.drop off).take ti.size) = some v
        | none => False
      | _, _, _ => False
    | .slice t x lo hi mx, some d => match opV fr x, opVo fr lo, opVo fr hi, opVo fr mx, cget fr.l d with
      | some v, some lo, some hi, some mx, some (.v u) => aSlice C.E t v lo hi mx H = some u
      | _, _, _, _, _ => False
    | .lookup t x i ok, some d => match opV fr x, opV fr i, cget fr.l d with
      | some x, some i, some (.v u) => aLookup C.E t x i ok H = some u
      | _, _, _ => False
    | _, _ => False

theorem cAsk_split {o : Oper} {k : Prop} (h : cAsk C ops fr L H o k) : k ∧ Asked C ops fr L H o := by
  unfold cAsk at h
  have key : ∀ {q : Prop}, (match o.op, o.dst with
    | .load t x, some d => match opS fr x, cget fr.l d, C.E.ty t with
      | some (.v (.pointer (some ⟨b, off, none⟩))), some (.v v), some _ => LD (C.tag t) H b off fun x => REQ ((C.tag t).enc x = v) q
      | some (.lp i off), some (.v v), some ti => match L[i]? with
        | some (_, cs) => if off + ti.size ≤ cs.length then REQ (ofCells ti.k ((cs.drop off).take ti.size) = some v) q else False
        | none => False
      | _, _, _ => False
    | .slice t x lo hi mx, some d => match opV fr x, opVo fr lo, opVo fr hi, opVo fr mx, cget fr.l d with
      | some v, some lo, some hi, some mx, some (.v u) => REQ (aSlice C.E t v lo hi mx H = some u) q
      | _, _, _, _, _ => False
    | .lookup t x i ok, some d => match opV fr x, opV fr i, cget fr.l d with
      | some x, some i, some (.v u) => REQ (aLookup C.E t x i ok H = some u) q
      | _, _, _ => False
    | _, _ => False) → q ∧ Asked C ops fr L H o := by
    intro q hq
    unfold Asked
    split at hq
    · rename_i t x d ho hd
      split at hq
      · rename_i b off v ti h1 h2 h3
        obtain ⟨y, g1, g2, g3⟩ := hq
        refine ⟨g3, fun _ => ?_⟩
        exact ⟨y, g1, g2⟩
      · rename_i i off v ti h1 h2 h3
        split at hq
        · rename_i m cs hL
          split at hq
          · rename_i hlen
            obtain ⟨g1, g2⟩ := hq
            refine ⟨g2, fun _ => ?_⟩
            exact ⟨hlen, g1⟩
          · exact hq.elim
        · exact hq.elim
      · exact hq.elim
    · split at hq
      · exact ⟨hq.2, fun _ => hq.1⟩
      · exact hq.elim
    · split at hq
      · exact ⟨hq.2, fun _ => hq.1⟩
      · exact hq.elim
    · exact hq.elim
  simp only at h
  split at h
  · exact key h
  · rename_i j want hg
    split at h
    · rename_i hd
      refine ⟨h, fun hw => ?_⟩
      exact (hw.not ⟨j, want, hg, .inl hd⟩).elim
    · rename_i d hd
      split at h
      · rename_i b hc
        cases want with
        | true =>
          simp only [if_true] at h
          cases b with
          | true => exact key h
          | false => exact ⟨h, fun hw => (hw.not ⟨j, true, hg, .inr ⟨d, _, hd, hc, rfl⟩⟩).elim⟩
        | false =>
          simp only [Bool.false_eq_true, if_false] at h
          cases b with
          | true => exact ⟨h, fun hw => (hw.not ⟨j, false, hg, .inr ⟨d, _, hd, hc, rfl⟩⟩).elim⟩
          | false => exact key h
      · rename_i xs hc
        exact ⟨h, fun hw => (hw.not ⟨j, want, hg, .inr ⟨d, _, hd, hc, rfl⟩⟩).elim⟩
      · exact h.elim
theorem cAsks_split : ∀ {as : List Oper} {k : Prop}, cAsks C ops fr L H as k → k ∧ ∀ o ∈ as, Asked C ops fr L H o
  | [], k, h => ⟨h, fun o ho => by simp at ho⟩
  | o :: r, k, h => by
    obtain ⟨h1, h2⟩ := cAsk_split h
    obtain ⟨h3, h4⟩ := cAsks_split h1
    refine ⟨h3, fun o' ho' => ?_⟩
    rcases List.mem_cons.1 ho' with rfl | ho'
    · exact h2
    · exact h4 o' ho'

/-- A read that was asked again gives what it gave. -/
theorem vals_asked {o : Oper} {s : Sv} (hv : Vals C loc o.dst o.type o.op fr L H s) (hu : ∀ t, t ∈ useOf ops o → cget fr'.l t = cget fr.l t) (hd : ∀ d, o.dst = some d → cget fr'.l d = some s) (hw : Wan ops o fr') (ha : Asked C ops fr' L' H' o) :
    Vals C loc o.dst o.type o.op fr' L' H' s := by
  have ha := ha hw
  have hv := vals_congr hu hv
  split at ha
  · rename_i t x d ho hdst
    unfold Vals SameS at *
    rw [ho] at hv ⊢
    simp only [cOp, and_self, and_true] at hv ⊢
    have hcd := hd d hdst
    split at ha
    · rename_i b off v ti h1 h2 h3
      rw [h2] at hcd; simp at hcd; subst hcd
      simp only [h1, h3] at hv ⊢
      split at hv
      · rename_i hc
        rw [if_pos hc]
        obtain ⟨y, g1, g2⟩ := ha
        exact ⟨y, g1, by simp [g2]⟩
      · exact hv.elim
    · rename_i i off v ti h1 h2 h3
      rw [h2] at hcd; simp at hcd; subst hcd
      simp only [h1, h3] at hv ⊢
      split at ha
      · rename_i m cs hL
        simp only [hL, if_pos ha.1, ha.2]
      · exact ha.elim
    · exact ha.elim
  · rename_i t x lo hi mx d ho hdst
    unfold Vals SameS at *
    rw [ho] at hv ⊢
    simp only [cOp, and_self, and_true] at hv ⊢
    have hcd := hd d hdst
    split at ha
    · rename_i v lo' hi' mx' u h1 h2 h3 h4 h5
      rw [h5] at hcd; simp at hcd; subst hcd
      simp only [h1, h2, h3, h4] at hv ⊢
      obtain ⟨y, _, g2⟩ := hv
      have g2 : Sv.v u = .v ((C.tag o.type).enc y) := by first | exact g2.symm | exact g2.1.symm
      injection g2 with g2
      exact ⟨y, by rw [ha, g2], by rw [g2]⟩
    · exact ha.elim
  · rename_i t x i ok d ho hdst
    unfold Vals SameS at *
    rw [ho] at hv ⊢
    simp only [cOp, and_self, and_true] at hv ⊢
    have hcd := hd d hdst
    split at ha
    · rename_i v i' u h1 h2 h3
      rw [h3] at hcd; simp at hcd; subst hcd
      simp only [h1, h2] at hv ⊢
      split at hv
      · rename_i hok
        subst hok
        split at hv
        · rename_i T hT
          rw [if_pos rfl]
          obtain ⟨y, b, _, g2⟩ := hv
          have g2 : Sv.v u = .v (.tuple #[T.enc y, .bool b]) := by first | exact g2.symm | exact g2.1.symm
          injection g2 with g2
          exact ⟨y, b, by rw [ha, g2], by rw [g2]⟩
        · exact hv.elim
      · rename_i hok
        rw [if_neg hok]
        obtain ⟨y, _, g2⟩ := hv
        have g2 : Sv.v u = .v ((C.tag o.type).enc y) := by first | exact g2.symm | exact g2.1.symm
        injection g2 with g2
        exact ⟨y, by rw [ha, g2], by rw [g2]⟩
    · exact ha.elim
  · exact ha.elim

end Go.Proofs.Ytmjonmhpfngkaaa.Zq
