/- Functions: what the evaluator answers, the call answers. -/
import Derived.Test.YthgfjbafhjkhnaaGreatZqCode2
namespace Go.Proofs.YthgfjbafhjkhnaaGreat.Zq
variable {P : Program} {E : Env} {M : Mp} {H H' : Heap} {w : World} {fr fr' : AFr} {a : Act}

/-- What is asked of a function's answers. -/
def FnOk (P : Program) (f : FuncId) (x : List Value → Heap → Option (Value × Heap)) : Prop :=
  ∀ args H res H', x args H = some (res, H') → (∃ fn, P.funcs[f]? = some fn ∧ fn.body.isSome = true ∧ (fn.name == "runtime.NumGoroutine") = false) ∧
    ∀ (n : Nat) (M : Mp) (w : World) (args' : List Value), HR M H w → VL M args args' →
      CallsIn Fence.wide n P f args'.toArray w fun e w' => ∃ v' M', e = .returned v' ∧ Stp M H w M' H' w' ∧ VR M' res v'

/-- What is asked of the functions that are told from outside. -/
def ExtOk (P : Program) (E : Env) : Prop := ∀ f x, E.ext f = some x → FnOk P f x

theorem result_ok (hE : E.Ok P) (h : HR M H w) (hf : FR M fr a.tmps) {g : ResultVar → Sem Value} (g1 : ∀ t, g (.tmp t) = pure (a.tmps.getD t undef)) (g2 : ∀ b t, g (.cell b t) = (do loadVar t (← asAddr (a.tmps.getD b undef))))
    {r : ResultVar} {v : Value} (hr : aResult E fr H r = some v) : ∃ v', (g r).run P w = .ok v' w ∧ VR M v v' := by
  cases r with
  | tmp t => exact ⟨_, by rw [g1]; rfl, hf.get t v hr⟩
  | cell b t =>
    simp only [aResult] at hr
    obtain ⟨p, h1, h2⟩ := some_bind hr
    have hp := hf.get b p h1
    unfold aLoad at h2
    split at h2
    · obtain ⟨ti, ht, h3⟩ := some_bind h2
      obtain ⟨cs, h4, h5⟩ := some_bind h3
      obtain ⟨e, he, hq⟩ := hp.of_ptr
      obtain ⟨u, k1, k2⟩ := loadVar_ok hE h ht he h4 h5
      exact ⟨u, by rw [g2]; simp [hq, asAddr, k1], k2⟩
    · simp at h2

theorem results_ok (hE : E.Ok P) (h : HR M H w) (hf : FR M fr a.tmps) {g : ResultVar → Sem Value} (g1 : ∀ t, g (.tmp t) = pure (a.tmps.getD t undef)) (g2 : ∀ b t, g (.cell b t) = (do loadVar t (← asAddr (a.tmps.getD b undef)))) : ∀ {rs : List ResultVar} {vs : List Value}, aResultL E fr H rs = some vs →
    ∃ us : List Value, (rs.mapM g).run P w = .ok us w ∧ VL M vs us
  | [], vs, hr => by simp [aResultL] at hr; subst hr; exact ⟨[], by simp, .nil M⟩
  | r :: rs, vs, hr => by
    simp only [aResultL] at hr
    obtain ⟨v, h1, h2⟩ := some_bind hr
    obtain ⟨us, h3, h4⟩ := some_bind h2
    simp at h4; subst h4
    obtain ⟨v', k1, k2⟩ := result_ok hE h hf g1 g2 h1
    obtain ⟨us', k3, k4⟩ := results_ok hE h hf g1 g2 h3
    exact ⟨v' :: us', by simp only [List.mapM_cons, Sem.run_bind, k1, Result.andThen_ok, k3, Sem.run_pure], .cons k2 k4⟩

theorem tupleOf_ok {vs us : List Value} (h : VL M vs us) : VR M (tupleOf vs) (if h : us.toArray.size = 1 then us.toArray[0] else .tuple us.toArray) := by
  have hl := h.1
  unfold tupleOf
  split
  · rename_i v
    obtain ⟨u, us', rfl, hu, ht⟩ := h.of_cons
    have := ht.of_nil; subst this
    simpa using hu
  · rename_i hne
    have : ¬ us.toArray.size = 1 := by
      intro h1
      simp at h1
      rw [← hl] at h1
      obtain ⟨x, hx⟩ := List.length_eq_one_iff.1 h1
      exact hne x hx
    rw [dif_neg this]
    exact h.tuple

theorem look_enterL : ∀ (l : List Value) (i t : Nat), look (enterL i l) t = if i ≤ t then l[t - i]? else none
  | [], i, t => by simp [enterL, look]
  | v :: r, i, t => by
    simp only [enterL, look, look_enterL r (i + 1) t]
    by_cases h : i = t
    · subst h; simp
    · rw [if_neg h]
      by_cases h2 : i ≤ t
      · rw [if_pos h2, if_pos (by omega)]
        obtain ⟨q, hq⟩ : ∃ q, t - i = q + 1 := ⟨t - i - 1, by omega⟩
        rw [hq, show t - (i + 1) = q by omega]; rfl
      · rw [if_neg h2, if_neg (by omega)]

theorem enter_ok {fn : Func} {args args' : List Value} (h : VL M args args') : FR M (enterFr fn args) (args'.toArray ++ Array.replicate (fn.ntmps - args'.toArray.size) undef) := by
  refine ⟨by simp [enterFr, h.1], fun t v hv => ?_⟩
  unfold AFr.get enterFr at hv
  simp only [look_enterL, Nat.zero_le, if_true, Nat.sub_zero] at hv
  have ht : t < args.length := (List.getElem?_eq_some_iff.1 hv).1
  have ht' : t < args'.length := by rw [← h.1]; exact ht
  have hg : (args'.toArray ++ Array.replicate (fn.ntmps - args'.toArray.size) undef)[t]? = some args'[t] := by
    rw [Array.getElem?_append_left (by simpa using ht')]
    simp [ht']
  rw [Array.getD_eq_getD_getElem?, hg]
  exact h.2 t v _ hv (List.getElem?_eq_getElem ht')

theorem HR.not_deferred {r : Nat} {x : Option (List Deferred)} (h : HR M H w) {b : Nat} {e : Ent} (hb : M[b]? = some (some e)) (hl : liveB H b) (hd : w.heap[r]? = some (.deferred x)) : e.blk ≠ r := by
  intro he
  unfold liveB at hl
  obtain ⟨k, hk⟩ := h.get' hb
  have hbr := h.blk b e k hb hk
  rw [hk] at hl
  cases k with
  | row c sz opn ro live =>
    obtain ⟨_, _, _, h4⟩ := hbr
    obtain ⟨c', t, fz, g, _⟩ := h4 hl
    rw [he, hd] at g; simp at g
  | map es clock =>
    obtain ⟨es', g, _⟩ := hbr
    rw [he, hd] at g; simp at g
  | iter s pos =>
    have g := hbr.2
    rw [he, hd] at g; simp at g
  | loop =>
    obtain ⟨L, g, _⟩ := hbr
    rw [he, hd] at g; simp at g

/-- A block of deferred calls, new since then, is shut. -/
theorem Stp.unmark {M' : Mp} {w' : World} {r : Nat} {x : Option (List Deferred)} (o : Obj) (h : Stp M H w M' H' w') (hr : w.heap.size ≤ r) (hd : w'.heap[r]? = some (.deferred x)) :
    Stp M H w M' H' { w' with heap := w'.heap.setIfInBounds r o } := by
  have hO : ∀ j : Nat, j ≠ r → (w'.heap.setIfInBounds r o)[j]? = w'.heap[j]? := fun j hj => by rw [Array.getElem?_setIfInBounds_ne (Ne.symm hj)]
  refine ⟨h.ext, ⟨h.hr.len, fun b e k hb hk => (h.hr.blk b e k hb hk).same fun hlv => hO _ (h.hr.not_deferred hb ?_ hd), h.hr.sep⟩, h.os, h.output, h.tape, by simpa using h.size, h.dr, fun c hc hn => ?_, h.wm, h.keep, h.lm⟩
  · unfold liveB; rw [hk]; cases k <;> first | exact hlv | trivial
  · show (w'.heap.setIfInBounds r o)[c]? = _
    rw [hO c (by omega)]; exact h.frame c hc hn

theorem leaves_marks {fn : Func} {tmps : Array Value} {M' : Mp} {R : Ending → World → Prop} {n : Nat}
    (hR : ∀ w', Stp M H w M' H' w' → ∃ v, (results fn tmps).run P w' = .ok v w' ∧ R (.returned v) w') :
    ∀ (rs : List Nat) (w' : World), Stp M H w M' H' w' → rs.Nodup → (∀ r ∈ rs, w.heap.size ≤ r ∧ w'.heap[r]? = some (.deferred (some []))) →
      LeavesInM Fence.wide n P fn tmps R (rs.map fun r => { target := .collected r, args := #[] }) .returning w'
  | [], w', hs, _, _ => hR w' hs
  | r :: rs, w', hs, hn, ha => by
    obtain ⟨h1, h2⟩ := ha r (by simp)
    have hlt := (Array.getElem?_eq_some_iff.1 h2).1
    refine ⟨by simp, .inl ⟨r, { w' with heap := w'.heap.setIfInBounds r (.deferred none) }, rfl, ?_, leaves_marks hR rs _ (hs.unmark _ h1 h2) (List.nodup_cons.1 hn).2 ?_⟩⟩
    · have hg : (getObj r).run P w' = .ok (.deferred (some [])) w' := by simp [getObj, Sem.run, h2]
      have hs' : ∀ o, (setObj r o).run P w' = .ok () { w' with heap := w'.heap.setIfInBounds r o } := fun o => by simp [setObj, Sem.run, h2]
      simp only [Instr.takeDeferred, Sem.run_bind, hg, Result.andThen_ok, hs', Sem.run_pure]
    · intro q hq
      obtain ⟨g1, g2⟩ := ha q (by simp [hq])
      refine ⟨g1, ?_⟩
      have hqr : r ≠ q := fun e => (List.nodup_cons.1 hn).1 (e ▸ hq)
      show (w'.heap.setIfInBounds r _)[q]? = _
      rw [Array.getElem?_setIfInBounds_ne hqr]; exact g2

theorem putL_ok : ∀ {ps : List Nat} {args args' : List Value} {fr fr' : AFr} {tmps : Array Value}, putL fr ps args = some fr' → FR M fr tmps → VL M args args' →
    args'.length = ps.length ∧ FR M fr' ((ps.zip args').foldl (fun tmps x => tmps.setIfInBounds x.1 x.2) tmps)
  | [], [], args', fr, fr', tmps, h, hf, hv => by
    simp [putL] at h; subst h
    have := hv.of_nil; subst this
    exact ⟨rfl, hf⟩
  | t :: ts, v :: vs, args', fr, fr', tmps, h, hf, hv => by
    obtain ⟨u, us, rfl, hu, ht⟩ := hv.of_cons
    simp only [putL] at h
    split at h
    · rename_i hlt
      obtain ⟨g1, g2⟩ := putL_ok h (hf.put hlt hu) ht
      exact ⟨by simp [g1], g2⟩
    · simp at h
  | [], _ :: _, _, _, _, _, h, _, _ => by simp [putL] at h
  | _ :: _, [], _, _, _, _, h, _, _ => by simp [putL] at h

theorem run_getLoop {l : Nat} {L : Loop} (h : w.heap[l]? = some (.loop L)) : (Instr.getLoop l).run P w = .ok L w := by
  simp [Instr.getLoop, getObj, Sem.run, h]
theorem run_setLoop {l : Nat} {L : Loop} (h : w.heap[l]? = some (.loop L)) (o : Obj) : (setObj l o).run P w = .ok () { w with heap := w.heap.setIfInBounds l o } := by
  simp [setObj, Sem.run, h]

theorem fn_ok (hE : E.Ok P) (hX : ExtOk P E) : ∀ k, CallOk P (aFn E k) := by
  intro k
  induction k with
  | zero => exact ⟨fun f args H res H' h => by simp [aFn] at h, fun f args H res H' h => by simp [aFn] at h⟩
  | succ k ih =>
    constructor
    · intro f args H res H' h
      simp only [aFn] at h
      split at h
      · rename_i x hx
        exact hX f x hx args H res H' h
      · obtain ⟨fn, h1, h2⟩ := some_bind h
        obtain ⟨c, h3, h4⟩ := some_bind h2
        obtain ⟨q1, q2⟩ := hE.fn f fn h1
        refine ⟨⟨fn, q1, by simp [h3], q2⟩, fun n M w args' hr hv => ?_⟩
        obtain ⟨e, fr', H2, g1, g2⟩ := code_ok (ro := none) hE ih k true (fun _ => rfl) c (E.hint f) (enterFr fn args) H (Value × Heap) _ _ h4
        refine callsIn_of_wp_marks q1 h3 trivial (wpIn_mono (g2.2 n M _ w hr (enter_ok hv)) ?_)
        rintro x a' w' ⟨r1, M', r2, r3, r4⟩
        have hres : ∀ (hg : ((aResultL E fr' H2 fn.results.toList).bind fun vs => some (tupleOf vs, H2)) = some (res, H')),
            LeavesInM Fence.wide n P fn a'.tmps (fun e w' => ∃ v' M', e = .returned v' ∧ Stp M H w M' H' w' ∧ VR M' res v') a'.defers .returning w' := by
          intro hg
          obtain ⟨vs, k1, k2⟩ := some_bind hg
          simp at k2; obtain ⟨rfl, rfl⟩ := k2
          obtain ⟨rs, e1, n1, a1⟩ := r4
          rw [e1]
          simp only [List.append_nil]
          refine leaves_marks (M := M) (M' := M') (fun w'' hs => ?_) rs w' r2 n1 a1
          obtain ⟨us, l1, l2⟩ := results_ok (g := fun r => match r with | .tmp t => pure (a'.tmps.getD t undef) | .cell b t => do loadVar t (← asAddr (a'.tmps.getD b undef))) hE hs.hr r3 (fun _ => rfl) (fun _ _ => rfl) k1
          refine ⟨_, ?_, _, M', rfl, hs, tupleOf_ok l2⟩
          unfold results
          rw [Array.mapM_eq_mapM_toList]
          simp only [Sem.run_bind, Sem.run_map, Sem.run_pure]
          erw [l1]
          rfl
        cases e with
        | normal =>
          cases x <;> first | exact r1.elim | skip
          exact hres g1
        | ret =>
          cases x <;> first | exact r1.elim | skip
          exact hres g1
        | exit i => simp at g1
    · intro l args H res H' h n M w args' en hr hv hen
      simp only [aFn] at h
      split at h
      · rename_i st pend fr ps asg body hb hl
        obtain ⟨fr1, h1, h2⟩ := some_bind h
        obtain ⟨L, b1, b2, b3, b4, b5, b6, b7⟩ := hr.blk _ _ _ hen hl
        obtain ⟨p1, p2⟩ := putL_ok h1 b4 hv
        refine ⟨L, b1, by rw [p1, ← b5]; simp, ?_⟩
        have hfold : (L.params.zip args'.toArray).foldl (fun tmps (t, a) => tmps.setIfInBounds t a) L.tmps = (ps.zip args').foldl (fun tmps x => tmps.setIfInBounds x.1 x.2) L.tmps := by
          rw [← Array.foldl_toList, Array.toList_zip, b5]
        rw [hfold, b6, b7]
        obtain ⟨e1, fr2, H1, g1, g2⟩ := code_ok (ro := some en.blk) hE ih k false (by simp) asg .leaf fr1 H (Value × Heap) _ _ h2
        refine roundIn_of_wpIn (F := Fence.wide) trivial (wpIn_mono (g2.2 n M _ w hr p2) ?_)
        rintro x a1 w1 ⟨r1, M1, r2, r3, r4⟩
        split at g1
        · rename_i pd fr0 ps0 asg0 body0 hb0 hl1
          cases x <;> first | exact r1.elim | skip
          have hen1 := r2.ext _ _ hen
          obtain ⟨L1, c1, c2, c3, c4, c5, c6, c7⟩ := r2.hr.blk _ _ _ hen1 hl1
          have hlt1 := (Array.getElem?_eq_some_iff.1 c1).1
          have hH1 : l < H1.length := (List.getElem?_eq_some_iff.1 hl1).1
          have s2 := Stp.setBlk (k' := .loop .busy pd fr0 ps0 asg0 body0 hb0) (o' := .loop { L1 with state := .busy }) r2.hr hl1 hen1 (by unfold writB; rw [hl1]; trivial) (by unfold writB; rw [List.getElem?_set_self hH1]; trivial)
            ⟨{ L1 with state := .busy }, by simp [hlt1], rfl, c3, c4, c5, c6, c7⟩
          refine ⟨{ w1 with heap := w1.heap.setIfInBounds en.blk (.loop { L1 with state := .busy }) }, ?_, ?_⟩
          · have hg := run_getLoop (P := P) c1
            have hs' := run_setLoop (P := P) c1
            simp only [Instr.beginRound, Sem.run_bind, hg, Result.andThen_ok, hs', c2, Sem.run_pure]
          · obtain ⟨e2, fr3, H2, g3, g4⟩ := code_ok (ro := some en.blk) hE ih k false (by simp) body hb fr2 _ (Value × Heap) _ _ g1
            refine wpIn_mono (g4.2 n M1 a1 _ s2.hr r3) ?_
            rintro x2 a2 w2 ⟨t1, M2, t2, t3, t4⟩
            split at g3
            · rename_i st1 pd1 fr4 ps1 asg1 body1 hb1 hl2
              have hen2 := t2.ext _ _ hen1
              obtain ⟨L2, d1, d2, d3, d4, d5, d6, d7⟩ := t2.hr.blk _ _ _ hen2 hl2
              have hlt2 := (Array.getElem?_eq_some_iff.1 d1).1
              have hH2 : l < H2.length := (List.getElem?_eq_some_iff.1 hl2).1
              have s12 := (r2.trans s2).trans t2
              have fin : ∀ (s : LoopState) (pe : Option Ex) (j : Option Code), PendR pe j → Stp M H w M2 (H2.set l (.loop s pe fr4 ps1 asg1 body1 hb1)) { w2 with heap := w2.heap.setIfInBounds en.blk (.loop { L2 with state := s, pending := j }) } := fun s pe j hp =>
                s12.trans (Stp.setBlk t2.hr hl2 hen2 (by unfold writB; rw [hl2]; trivial) (by unfold writB; rw [List.getElem?_set_self hH2]; trivial)
                  ⟨{ L2 with state := s, pending := j }, by simp [hlt2], rfl, hp, d4, d5, d6, d7⟩)
              have hend : ∀ j : Option Code, (Instr.endRound en.blk j).run P w2 = .ok (.bool j.isNone) { w2 with heap := w2.heap.setIfInBounds en.blk (.loop { L2 with state := if j.isNone then .ready else .done, pending := j }) } := fun j => by
                have hg := run_getLoop (P := P) d1
                have hs' := run_setLoop (P := P) d1
                simp only [Instr.endRound, Sem.run_bind, hg, Result.andThen_ok, hs', Sem.run_pure]
              cases e2 with
              | normal =>
                cases x2 <;> first | exact t1.elim | skip
                simp at g3; obtain ⟨rfl, rfl⟩ := g3
                exact ⟨_, _, hend none, _, M2, rfl, fin _ none none trivial, .bool _⟩
              | ret =>
                cases x2 <;> first | exact t1.elim | skip
                simp at g3; obtain ⟨rfl, rfl⟩ := g3
                exact ⟨_, _, hend (some .ret), _, M2, rfl, fin _ (some .ret) (some .ret) trivial, .bool _⟩
              | exit i =>
                cases x2 <;> first | exact t1.elim | skip
                rename_i i2
                have t1 : i = i2 := t1
                subst t1
                simp at g3; obtain ⟨rfl, rfl⟩ := g3
                exact ⟨_, _, hend (some (.exit i)), _, M2, rfl, fin _ (some (.exit i)) (some (.exit i)) rfl, .bool _⟩
            · simp at g3
        · simp at g1
      · simp at h

end Go.Proofs.YthgfjbafhjkhnaaGreat.Zq
