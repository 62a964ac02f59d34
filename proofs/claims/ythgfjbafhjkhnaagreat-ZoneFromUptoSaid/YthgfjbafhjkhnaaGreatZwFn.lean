/- Functions: what their propositions say, the machine does; words on calls. -/
import Derived.Test.YthgfjbafhjkhnaaGreatZwCode2
import Derived.Test.YthgfjbafhjkhnaaGreatZqRow
namespace Go.Proofs.YthgfjbafhjkhnaaGreat.Zq
variable {C : CEnv} {M M' : Mp} {H H' : Heap} {w w' : World} {L L' : Loc} {ML ML' : Ml} {fr fr' : CFr} {a a' : Act} {n : Nat} {loc : List Nat}

theorem cEnter_get : ∀ (l : List Value) (i t : Nat), cget (cEnterL i l) t = if i ≤ t then (l[t - i]?).map .v else none
  | [], i, t => by simp [cEnterL, cget]
  | v :: r, i, t => by
    simp only [cEnterL, cget, cEnter_get r (i + 1) t]
    by_cases h : i = t
    · subst h; simp
    · rw [if_neg h]
      by_cases h2 : i ≤ t
      · rw [if_pos h2, if_pos (by omega)]
        obtain ⟨q, hq⟩ : ∃ q, t - i = q + 1 := ⟨t - i - 1, by omega⟩
        rw [hq, show t - (i + 1) = q by omega]; rfl
      · rw [if_neg h2, if_neg (by omega)]

theorem cEnter_ok {ntmps : Nat} {args args' : List Value} (h : VL M args args') : FS M [] (cEnter ntmps args) (args'.toArray ++ Array.replicate (ntmps - args'.toArray.size) undef) := by
  refine ⟨by simp [cEnter, h.1], fun t s hs => ?_⟩
  unfold cEnter at hs
  simp only [cEnter_get, Nat.zero_le, if_true, Nat.sub_zero, Option.map_eq_some_iff] at hs
  obtain ⟨v, hv, rfl⟩ := hs
  have ht : t < args.length := (List.getElem?_eq_some_iff.1 hv).1
  have ht' : t < args'.length := by rw [← h.1]; exact ht
  have := h.2 t v args'[t] hv (List.getElem?_eq_getElem ht')
  have hsz : t < (args'.toArray ++ Array.replicate (ntmps - args'.toArray.size) undef).size := by simp; omega
  have he : (args'.toArray ++ Array.replicate (ntmps - args'.toArray.size) undef).getD t undef = args'[t] := by
    simp only [Array.getD, hsz, dite_true]
    simp [ht']
  show VR M v _
  rw [he]; exact this

theorem cRes_ok (hE : C.E.Ok C.P) (l : LR M H L ML w) (f : FS M ML fr a.tmps) {g : ResultVar → Sem Value} (g1 : ∀ t, g (.tmp t) = pure (a.tmps.getD t undef)) (g2 : ∀ b t, g (.cell b t) = (do loadVar t (← asAddr (a.tmps.getD b undef)))) : ∀ {rs : List ResultVar} {vs : List Value}, cRes C fr L rs = some vs →
    ∃ us : List Value, (rs.mapM g).run C.P w = .ok us w ∧ VL M vs us
  | [], vs, hr => by simp [cRes] at hr; subst hr; exact ⟨[], by simp, .nil M⟩
  | .tmp t :: rs, vs, hr => by
    simp only [cRes] at hr
    split at hr
    · rename_i v vs' h1 h2
      simp at hr; subst hr
      obtain ⟨us, k1, k2⟩ := cRes_ok hE l f g1 g2 h2
      exact ⟨_ :: us, by simp only [List.mapM_cons, Sem.run_bind, g1, Sem.run_pure, Result.andThen_ok, k1], .cons (f.get t _ h1) k2⟩
    · simp at hr
  | .cell b t :: rs, vs, hr => by
    simp only [cRes] at hr
    split at hr
    · rename_i i off ti vs' h1 h2 h3
      split at hr
      · rename_i m cs hL
        split at hr
        · rename_i hlen
          split at hr
          · rename_i v hv
            simp at hr; subst hr
            obtain ⟨e, e1, e2⟩ := f.get b _ h1
            obtain ⟨u, q1, q2⟩ := locLoad_ok hE l e1 hL h2 hlen hv
            obtain ⟨us, k1, k2⟩ := cRes_ok hE l f g1 g2 h3
            exact ⟨u :: us, by simp only [List.mapM_cons, Sem.run_bind, g2, e2, asAddr, Sem.run_pure, Result.andThen_ok, q1, k1], .cons q2 k2⟩
          · simp at hr
        · simp at hr
      · simp at hr
    · simp at hr

theorem decs_ok : ∀ {rs : List Tag} {vs : List Value} {x : Tup rs}, decs rs vs = some x → vs = encs rs x
  | [], [], x, h => rfl
  | [], _ :: _, x, h => by simp [decs] at h
  | T :: r, [], x, h => by simp [decs] at h
  | T :: r, v :: vs, x, h => by
    simp only [decs] at h
    split at h
    · rename_i y z h1 h2
      have h := Option.some.inj h
      subst h
      simp only [encs]
      rw [decs_ok h2]
      have : v = T.enc y := by
        unfold Tag.dec at h1
        unfold Tag.enc encC
        split at h1
        · rename_i cs
          split at h1
          · rename_i ha; rw [if_pos ha, ← T.ok _ _ h1]
          · simp at h1
        · simp at h1
        · split at h1
          · simp at h1
          · rename_i ha; rw [if_neg ha, ← T.ok _ _ h1]
      rw [this]
    · cases h

theorem leaves_marksI {M M' : Mp} {H H' : Heap} {w : World} {P : Program} {fn : Func} {tmps : Array Value} {R : Ending → World → Prop} {n : Nat} {I : World → Prop}
    (hI : ∀ (w' : World) (r : Nat), I w' → w'.heap[r]? = some (.deferred (some [])) → I { w' with heap := w'.heap.setIfInBounds r (.deferred none) })
    (hR : ∀ w', Stp M H w M' H' w' → I w' → ∃ v, (results fn tmps).run P w' = .ok v w' ∧ R (.returned v) w') :
    ∀ (rs : List Nat) (w' : World), Stp M H w M' H' w' → I w' → rs.Nodup → (∀ r ∈ rs, w.heap.size ≤ r ∧ w'.heap[r]? = some (.deferred (some []))) →
      LeavesInM Fence.wide n P fn tmps R (rs.map fun r => { target := .collected r, args := #[] }) .returning w'
  | [], w', hs, hi, _, _ => hR w' hs hi
  | r :: rs, w', hs, hi, hn, ha => by
    obtain ⟨h1, h2⟩ := ha r (by simp)
    have hlt := (Array.getElem?_eq_some_iff.1 h2).1
    refine ⟨by simp, .inl ⟨r, { w' with heap := w'.heap.setIfInBounds r (.deferred none) }, rfl, ?_, leaves_marksI hI hR rs _ (hs.unmark _ h1 h2) (hI _ _ hi h2) (List.nodup_cons.1 hn).2 ?_⟩⟩
    · have hg : (getObj r).run P w' = .ok (.deferred (some [])) w' := by simp [getObj, Sem.run, h2]
      have hs' : ∀ o, (setObj r o).run P w' = .ok () { w' with heap := w'.heap.setIfInBounds r o } := fun o => by simp [setObj, Sem.run, h2]
      simp only [Instr.takeDeferred, Sem.run_bind, hg, Result.andThen_ok, hs', Sem.run_pure]
    · intro q hq
      obtain ⟨g1, g2⟩ := ha q (by simp [hq])
      refine ⟨g1, ?_⟩
      have hqr : r ≠ q := fun e => (List.nodup_cons.1 hn).1 (e ▸ hq)
      show (w'.heap.setIfInBounds r _)[q]? = _
      rw [Array.getElem?_setIfInBounds_ne hqr]; exact g2
theorem LR.unmark {M : Mp} {H : Heap} {L : Loc} {ML : Ml} {w : World} (l : LR M H L ML w) {r : Nat} (hd : w.heap[r]? = some (.deferred (some []))) : LR M H L ML { w with heap := w.heap.setIfInBounds r (.deferred none) } := by
  refine ⟨l.len, fun i e m cs hi hL => ?_, l.sep1, l.sep2⟩
  obtain ⟨h1, h2, h3, h4, h5⟩ := l.loc i e m cs hi hL
  obtain ⟨c, t, fz, g, g'⟩ := h5 rfl
  refine ⟨h1, h2, h3, h4, fun _ => ⟨c, t, fz, ?_, g'⟩⟩
  show (w.heap.setIfInBounds r _)[e.blk]? = _
  rw [Array.getElem?_setIfInBounds_ne (fun q => by rw [q, g] at hd; simp at hd)]
  exact g

/-- A FUNCTION's CALL OUT OF ITS PROPOSITION. -/
theorem call_of (hE : C.E.Ok C.P) {f : FuncId} {fn : Func} {c : Code} {h : Hnt} {rs : List Tag} {args : List Value} {k : Tup rs → Heap → Prop} (hf : C.P.funcs[f]? = some fn) (hb : fn.body = some c) (hn : (fn.name == "runtime.NumGoroutine") = false)
    (hc : cFn C loc fn.ntmps fn.results.toList rs c h args H k) : CALL C.P rs f args H k := by
  refine ⟨⟨fn, hf, by simp [hb], hn⟩, fun n M w args' hr hv => ?_⟩
  unfold cFn at hc
  have hg := comp_ok hE c none (.inr rfl) h _ _ _ _ hc
  have l0 : LR M H [] [] w := ⟨rfl, fun i e m cs hi => by simp at hi, fun i j e e' _ hi => by simp at hi, fun i e hi => by simp at hi⟩
  refine callsIn_of_wp_marks hf hb trivial (wpIn_mono (hg n M [] _ w hr l0 (cEnter_ok hv)) ?_)
  rintro x a' w' ⟨e, fr', L', H', M', ML', q1, q2, q3⟩
  have hst : Stp M H w M' H' w' := q3.st.st.toStp fun i e hi => by simp at hi
  obtain ⟨rs0, e0, n0, a0⟩ := q3.defers
  have fin : (match cRes C fr' L' fn.results.toList with
      | some vs => cRet rs vs fun x => k x H'
      | none => False) → LeavesInM Fence.wide n C.P fn a'.tmps (fun e w' => ∃ v v' M' H', e = .returned v' ∧ Stp M H w M' H' w' ∧ VR M' v v' ∧ ∃ x : Tup rs, v = tupleOf (encs rs x) ∧ k x H') a'.defers .returning w' := by
    intro hres
    split at hres
    · rename_i vs hvs
      unfold cRet at hres
      split at hres
      · rename_i x hx
        have hvx := decs_ok hx
        rw [e0]
        simp only [List.append_nil]
        refine leaves_marksI (M := M) (M' := M') (I := LR M' H' L' ML') (fun _ _ hi hd => hi.unmark hd) (fun w'' hs hi => ?_) rs0 w' hst q3.lr n0 a0
        obtain ⟨us, l1, l2⟩ := cRes_ok (g := fun r => match r with | .tmp t => pure (a'.tmps.getD t undef) | .cell b t => do loadVar t (← asAddr (a'.tmps.getD b undef))) hE hi q3.fs (fun _ => rfl) (fun _ _ => rfl) hvs
        refine ⟨_, ?_, _, _, M', H', rfl, hs, tupleOf_ok l2, x, by rw [hvx], hres⟩
        unfold results
        rw [Array.mapM_eq_mapM_toList]
        simp only [Sem.run_bind, Sem.run_map, Sem.run_pure]
        erw [l1]
        rfl
      · exact hres.elim
    · exact hres.elim
  cases e with
  | normal => cases x <;> first | exact q2.elim | exact fin q1
  | ret => cases x <;> first | exact q2.elim | exact fin q1
  | exit i => exact q1.elim

/-! ### Words on calls -/
theorem EV.mono {P : Program} {g : FuncId} {args : List Value} {Q Q' : Value → Heap → Prop} (h : EV P g args H Q) (hq : ∀ v H', Q v H' → Q' v H') : EV P g args H Q' :=
  ⟨h.1, fun n M w args' hr hv => (h.2 n M w args' hr hv).mono fun _ _ ⟨v, v', M', H', q1, q2, q3, q4⟩ => ⟨v, v', M', H', q1, q2, q3, hq v H' q4⟩⟩
theorem CALL.mono {P : Program} {rs : List Tag} {g : FuncId} {args : List Value} {k k' : Tup rs → Heap → Prop} (h : CALL P rs g args H k) (hk : ∀ x H', k x H' → k' x H') : CALL P rs g args H k' :=
  EV.mono h fun _ _ ⟨x, q1, q2⟩ => ⟨x, q1, hk x _ q2⟩
/-- What the old evaluator answers, a call comes to. -/
theorem call_ev {P : Program} {call : CallT} (hC : CallOk P call) {rs : List Tag} {g : FuncId} {args : List Value} {x : Tup rs} {k : Tup rs → Heap → Prop} (h : call (.fn g) args H = some (tupleOf (encs rs x), H')) (hk : k x H') : CALL P rs g args H k := by
  obtain ⟨h1, h2⟩ := hC.fn _ _ _ _ _ h
  exact ⟨h1, fun n M w args' hr hv => (h2 n M w args' hr hv).mono fun _ _ ⟨v', M', q1, q2, q3⟩ => ⟨_, v', M', H', q1, q2, q3, x, rfl, hk⟩⟩
/-- The law's own call. -/
theorem EV.law {P : Program} {g : FuncId} {args args' : List Value} (h : EV P g args H fun v _ => v = .bool true) (hr : HR M H w) (hv : VL M args args') (hn : ∀ b, ¬ writB H b) :
    Calls P g args'.toArray w fun e w' => e = .returned (.bool true) ∧ RowKit.Below w.heap.size w w' := by
  refine (callsIn_wide (n := 0)).1 ((h.2 0 M w args' hr hv).mono ?_)
  rintro e w' ⟨v, v', M', H', rfl, hs, hb, rfl⟩
  have := hb.of_bool
  subst this
  exact ⟨rfl, hs.below hn⟩

end Go.Proofs.YthgfjbafhjkhnaaGreat.Zq
