/- Operations in a frame: what the evaluator does, the machine does. -/
import Derived.Test.YthgfjbafhjkhnaaGreatZqMap
import Derived.OrdersIn
namespace Go.Proofs.YthgfjbafhjkhnaaGreat.Zq
variable {P : Program} {E : Env} {M : Mp} {H H' : Heap} {w : World}

/-- The fence that lets everything in; in a round of the loop ro. -/
def Fw (ro : Option Nat) : Fence := { Fence.wide with round := ro }

theorem FR.put {fr : AFr} {tmps : Array Value} (h : FR M fr tmps) {d : Nat} (hd : d < fr.n) {v v' : Value} (hv : VR M v v') : FR M (fr.put d v) (tmps.setIfInBounds d v') := by
  refine ⟨by simpa [AFr.put] using h.size, fun t u hu => ?_⟩
  simp only [AFr.put, AFr.get, look] at hu
  split at hu
  · rename_i e
    subst e
    simp at hu; subst hu
    have : d < tmps.size := by rw [h.size]; exact hd
    simpa [Array.getD, this] using hv
  · rename_i e
    have := h.get t u hu
    simpa only [Array.getD_eq_getD_getElem?, Array.getElem?_setIfInBounds, if_neg e] using this

/-- What is asked of the calls, and of the rounds. -/
structure CallOk (P : Program) (call : CallT) : Prop where
  fn : ∀ f args H res H', call (.fn f) args H = some (res, H') → (∃ fn, P.funcs[f]? = some fn ∧ fn.body.isSome = true ∧ (fn.name == "runtime.NumGoroutine") = false) ∧
    ∀ (n : Nat) (M : Mp) (w : World) (args' : List Value), HR M H w → VL M args args' →
      CallsIn Fence.wide n P f args'.toArray w fun e w' => ∃ v' M', e = .returned v' ∧ Stp M H w M' H' w' ∧ VR M' res v'
  round : ∀ l args H res H', call (.round l) args H = some (res, H') → ∀ (n : Nat) (M : Mp) (w : World) (args' : List Value) (e : Ent), HR M H w → VL M args args' → M[l]? = some (some e) →
    ∃ L : Loop, w.heap[e.blk]? = some (.loop L) ∧ args'.length = L.params.size ∧
      RoundIn Fence.wide n P e.blk L.fn ((L.params.zip args'.toArray).foldl (fun tmps (t, a) => tmps.setIfInBounds t a) L.tmps) L.assign L.body w fun e w' => ∃ v' M', e = .returned v' ∧ Stp M H w M' H' w' ∧ VR M' res v'

theorem callsIn_round {ro : Option Nat} {n : Nat} {f : FuncId} {args : Array Value} {R : Ending → World → Prop} (h : CallsIn Fence.wide n P f args w R) : CallsIn (Fw ro) n P f args w R := h

theorem opv_ok {fr : AFr} {a : Act} (h : FR M fr a.tmps) {x : Operand} {v : Value} (hv : opv fr x = some v) : VR M v (a.eval x) := by
  cases x with
  | tmp t => exact h.get t v hv
  | const u =>
    simp only [opv] at hv
    split at hv
    · rename_i hf; simp at hv; subst hv; exact VR.flat hf
    · simp at hv
  | global g => simp [opv] at hv
  | func f =>
    simp [opv] at hv; subst hv
    exact .func rfl rfl (fun i x u h _ => by simp at h) (fun i x u h _ => by simp at h)

theorem opvs_ok {fr : AFr} {a : Act} (h : FR M fr a.tmps) : ∀ {l : List Operand} {vs : List Value}, opvs fr l = some vs → VL M vs (l.map a.eval)
  | [], vs, hv => by simp [opvs] at hv; subst hv; exact .nil M
  | x :: l, vs, hv => by
    simp only [opvs] at hv
    obtain ⟨v, h1, hv2⟩ := some_bind hv
    obtain ⟨us, h2, hv3⟩ := some_bind hv2
    simp at hv3; subst hv3
    exact .cons (opv_ok h h1) (opvs_ok h h2)

theorem aParts_ok {fr : AFr} {a : Act} (h : FR M fr a.tmps) : ∀ {l : List (Nat × Operand)} {ps : List (Nat × Value)}, aParts fr l = some ps → PL M ps (l.map fun (i, x) => (i, a.eval x))
  | [], ps, hv => by simp [aParts] at hv; subst hv; exact .nil
  | (i, x) :: l, ps, hv => by
    simp only [aParts] at hv
    obtain ⟨v, h1, hv2⟩ := some_bind hv
    obtain ⟨us, h2, hv3⟩ := some_bind hv2
    simp at hv3; subst hv3
    exact .cons ⟨rfl, opv_ok h h1⟩ (aParts_ok h h2)

theorem opvo_ok {fr : AFr} {a : Act} (h : FR M fr a.tmps) {x : Option Operand} {v : Option Value} (hv : opvo fr x = some v) : OV M v (x.map a.eval) := by
  cases x with
  | none => simp [opvo] at hv; subst hv; exact .none
  | some x =>
    simp only [opvo] at hv
    obtain ⟨u, h1, hv2⟩ := some_bind hv
    simp at hv2; subst hv2
    exact .some (opv_ok h h1)

/-- A computation that gives a value, as an operation's walk. -/
theorem wp_of_gives {ro : Option Nat} {n : Nat} {o : Oper} {a : Act} {K : Act → World → Prop} {Q : Exit → Act → World → Prop} {s : Sem Value} {v : Value}
    (hd : ∀ c, o.op ≠ .defer c) (hs : execOp a.eval o = (do pure (.value (← s)))) (hg : Gives P M H w s v H')
    (hK : ∀ v' M' w', Stp M H w M' H' w' → VR M' v v' → K (a.put o.dst v') w') : o.wpIn (Fw ro) n P a w K Q := by
  obtain ⟨v', M', w', h1, h2, h3⟩ := hg
  refine ⟨fun _ _ => trivial, ?_⟩
  rw [Oper.semAt_eq _ _ _ hd, hs]
  simp only [Sem.run_bind, h1, Result.andThen_ok, Sem.run_pure]
  exact hK v' M' w' h2 h3

theorem wp_of_unit {ro : Option Nat} {n : Nat} {o : Oper} {a : Act} {K : Act → World → Prop} {Q : Exit → Act → World → Prop} {s : Sem Unit} {w' : World}
    (hd : ∀ c, o.op ≠ .defer c) (hs : execOp a.eval o = (do s; pure .skip)) (hr : s.run P w = .ok () w') (hK : K (a.put o.dst undef) w') : o.wpIn (Fw ro) n P a w K Q := by
  refine ⟨fun _ _ => trivial, ?_⟩
  rw [Oper.semAt_eq _ _ _ hd, hs]
  simp only [Sem.run_bind, hr, Result.andThen_ok, Sem.run_pure]
  exact hK

theorem toArray_one {α : Type} {a : Array α} {x : α} (h : a.toList = [x]) : a = #[x] := by
  apply Array.ext'; simpa using h

variable {call : CallT} {ro : Option Nat} {n : Nat} {fr : AFr} {a : Act} {v : Value} {K : Act → World → Prop} {Q : Exit → Act → World → Prop}

theorem call_ok (hE : E.Ok P) (hC : CallOk P call) (h : HR M H w) {o : Oper} {c : Call} (hf : FR M fr a.tmps) (hop : o.op = .call c) (ho : aOp E call fr (.call c) H = some (v, H'))
    (hK : ∀ v' M' w', Stp M H w M' H' w' → VR M' v v' → K (a.put o.dst v') w') : o.wpIn (Fw ro) n P a w K Q := by
  obtain ⟨dst, op, ty, pos, after, guard⟩ := o
  simp only at hop
  subst hop
  obtain ⟨callee, args, argTypes⟩ := c
  simp only [aOp] at ho
  obtain ⟨vs, h1, h2⟩ := some_bind ho
  clear ho
  have hvs := opvs_ok hf h1
  split at h2
  · -- a function
    rename_i f
    obtain ⟨g, h3, h4⟩ := some_bind h2
    have hg := opv_ok hf h3
    split at h4
    · rename_i k xs ys
      obtain ⟨⟨fn, q1, q2, q3⟩, q4⟩ := hC.fn _ _ _ _ _ h4
      obtain ⟨us, ws, hfe, hu, hw⟩ : ∃ us ws, a.eval f = .func (.func k) us ws ∧ VL M xs.toList us.toList ∧ VL M ys.toList ws.toList := by
        generalize hq : a.eval f = q at hg
        cases hg with
        | func hx hy gx gy =>
          exact ⟨_, _, rfl, ⟨by simpa using hx, fun i x u hx hu => gx i x u (by simpa using hx) (by simpa using hu)⟩, ⟨by simpa using hy, fun i x u hx hu => gy i x u (by simpa using hx) (by simpa using hu)⟩⟩
      have hl := (hu.append hvs).append hw
      have hcall := q4 (n - 1) M w _ h hl
      refine ⟨fun _ _ => trivial, ?_⟩
      rw [Oper.semAt_eq _ _ _ (fun c => by simp)]
      have hb : fn.body.isNone = false := by cases hb : fn.body <;> simp_all
      have he : (us.toList ++ List.map a.eval args.toList ++ ws.toList).toArray = us ++ args.map a.eval ++ ws := by
        apply Array.ext'; simp
      rw [he] at hcall
      simp only [execOp, Sem.run_bind, resolve, hfe, Deferred.ofValue, Sem.run_pure, Result.andThen_ok, invoke, callFunc, run_program, q1, q3, Bool.false_eq_true, if_false, hb]
      refine ⟨by simp [Fw, Fence.wide], (callsIn_round hcall).mono ?_⟩
      rintro e w' ⟨v', M', rfl, hs, hv⟩
      exact hK v' M' w' hs hv
    · rename_i l
      obtain ⟨en, hen, hfe⟩ : ∃ en, M[l]? = some (some en) ∧ a.eval f = .func (.yield en.blk) #[] #[] := by
        generalize hq : a.eval f = q at hg
        cases hg with
        | yield h => exact ⟨_, h, rfl⟩
      obtain ⟨L, k1, k2, k3⟩ := hC.round _ _ _ _ _ h4 (n - 1) M w _ en h hvs hen
      refine ⟨fun _ _ => trivial, ?_⟩
      rw [Oper.semAt_eq _ _ _ (fun c => by simp)]
      have he : (#[] : Array Value) ++ args.map a.eval = (List.map a.eval args.toList).toArray := by apply Array.ext'; simp
      have hgl : (Instr.getLoop en.blk).run P w = .ok L w := by simp [Instr.getLoop, getObj, Sem.run, k1]
      have hsz : ¬ ((List.map a.eval args.toList).toArray.size ≠ L.params.size) := by simp at k2 ⊢; exact k2
      simp only [execOp, Sem.run_bind, resolve, hfe, Deferred.ofValue, Sem.run_pure, Result.andThen_ok, invoke, Instr.yield, he, hgl, Sem.run_ite, if_neg hsz]
      refine ⟨by simp [Fw, Fence.wide], RoundIn.mono k3 ?_⟩
      rintro e w' ⟨v', M', rfl, hs, hv⟩
      exact hK v' M' w' hs hv
    · simp at h4
  · -- append
    split at h2
    · rename_i s x
      obtain ⟨s', us, e1, hs, ht⟩ := hvs.of_cons
      obtain ⟨x', us', e2, hx, ht'⟩ := ht.of_cons
      have := ht'.of_nil; subst this; subst e2
      refine wp_of_gives (s := Builtin.append_ argTypes ty #[s', x']) (fun c => by simp) ?_ (by simpa using append_ok hE h (ty := ty) hs hx h2) hK
      have : args.map a.eval = #[s', x'] := by apply Array.ext'; simpa using e1
      simp [execOp, resolve, invoke, builtin, this]
    · simp at h2
  · -- copy
    split at h2
    · rename_i s x
      obtain ⟨s', us, e1, hs, ht⟩ := hvs.of_cons
      obtain ⟨x', us', e2, hx, ht'⟩ := ht.of_cons
      have := ht'.of_nil; subst this; subst e2
      refine wp_of_gives (s := Builtin.copy_ argTypes ty #[s', x']) (fun c => by simp) ?_ (copy_ok hE h (ty := ty) hs hx h2) hK
      have : args.map a.eval = #[s', x'] := by apply Array.ext'; simpa using e1
      simp [execOp, resolve, invoke, builtin, this]
    · simp at h2
  · -- len
    split at h2
    · rename_i x t hat
      obtain ⟨r, h5, h6⟩ := some_bind h2
      simp at h6; obtain ⟨rfl, rfl⟩ := h6
      obtain ⟨x', us, e1, hx, ht⟩ := hvs.of_cons
      have := ht.of_nil; subst this
      refine wp_of_gives (s := Builtin.len_ #[t] ty #[x']) (fun c => by simp) ?_ (len_ok hE h hx h5) hK
      have : args.map a.eval = #[x'] := by apply Array.ext'; simpa using e1
      simp [execOp, resolve, invoke, builtin, this, toArray_one hat]
    · simp at h2
  · -- cap
    split at h2
    · rename_i x t hat
      obtain ⟨r, h5, h6⟩ := some_bind h2
      simp at h6; obtain ⟨rfl, rfl⟩ := h6
      obtain ⟨x', us, e1, hx, ht⟩ := hvs.of_cons
      have := ht.of_nil; subst this
      refine wp_of_gives (s := Builtin.cap_ #[t] ty #[x']) (fun c => by simp) ?_ (cap_ok hE h hx h5) hK
      have : args.map a.eval = #[x'] := by apply Array.ext'; simpa using e1
      simp [execOp, resolve, invoke, builtin, this, toArray_one hat]
    · simp at h2
  · -- min
    split at h2
    · rename_i x r
      obtain ⟨q, h5, h6⟩ := some_bind h2
      simp at h6; obtain ⟨rfl, rfl⟩ := h6
      obtain ⟨x', us, e1, hx, ht⟩ := hvs.of_cons
      refine wp_of_gives (s := Builtin.min_ argTypes ty (x' :: us).toArray) (fun c => by simp) ?_ (min_ok (mx := false) (ts := argTypes) (ty := ty) h hx ht h5) hK
      have : args.map a.eval = (x' :: us).toArray := by apply Array.ext'; simpa using e1
      simp only [execOp, resolve, invoke, builtin, this, pure_bind]
    · simp at h2
  · split at h2
    · rename_i x r
      obtain ⟨q, h5, h6⟩ := some_bind h2
      simp at h6; obtain ⟨rfl, rfl⟩ := h6
      obtain ⟨x', us, e1, hx, ht⟩ := hvs.of_cons
      refine wp_of_gives (s := Builtin.max_ argTypes ty (x' :: us).toArray) (fun c => by simp) ?_ (min_ok (mx := true) (ts := argTypes) (ty := ty) h hx ht h5) hK
      have : args.map a.eval = (x' :: us).toArray := by apply Array.ext'; simpa using e1
      simp only [execOp, resolve, invoke, builtin, this, pure_bind]
    · simp at h2
  · -- clear
    split at h2
    · rename_i x
      obtain ⟨r, h5, h6⟩ := some_bind h2
      simp at h6; obtain ⟨rfl, rfl⟩ := h6
      obtain ⟨x', us, e1, hx, ht⟩ := hvs.of_cons
      have := ht.of_nil; subst this
      refine wp_of_gives (s := Builtin.clear_ argTypes ty #[x']) (fun c => by simp) ?_ (clear_ok hE h (ty := ty) hx h5) hK
      have : args.map a.eval = #[x'] := by apply Array.ext'; simpa using e1
      simp [execOp, resolve, invoke, builtin, this]
    · simp at h2
  · simp at h2

set_option maxHeartbeats 2000000 in
theorem op_ok (hE : E.Ok P) (hC : CallOk P call) (h : HR M H w) {o : Oper} (hf : FR M fr a.tmps) (ho : aOp E call fr o.op H = some (v, H'))
    (hK : ∀ v' M' w', Stp M H w M' H' w' → VR M' v v' → K (a.put o.dst v') w') : o.wpIn (Fw ro) n P a w K Q := by
  by_cases hc : ∃ c, o.op = .call c
  · obtain ⟨c, hc⟩ := hc
    rw [hc] at ho
    exact call_ok hE hC h hf hc ho hK
  obtain ⟨dst, op, ty, pos, after, guard⟩ := o
  simp only at ho hc
  cases op with
  | move x =>
    simp only [aOp] at ho
    obtain ⟨u, h1, h2⟩ := some_bind ho
    simp at h2; obtain ⟨rfl, rfl⟩ := h2
    exact wp_of_gives (s := pure (a.eval x)) (fun c => by simp) (by simp [execOp]) (Gives.pure h rfl (opv_ok hf h1)) hK
  | assign x =>
    simp only [aOp] at ho
    obtain ⟨u, h1, h2⟩ := some_bind ho
    simp at h2; obtain ⟨rfl, rfl⟩ := h2
    exact wp_of_gives (s := pure (a.eval x)) (fun c => by simp) (by simp [execOp]) (Gives.pure h rfl (opv_ok hf h1)) hK
  | pick c x y =>
    simp only [aOp] at ho
    obtain ⟨u, h1, h2⟩ := some_bind ho
    have hc := opv_ok hf h1
    unfold ifV at h2
    split at h2
    · obtain ⟨u2, h3, h4⟩ := some_bind h2
      simp at h4; obtain ⟨rfl, rfl⟩ := h4
      have hc' := hc.of_bool
      exact wp_of_gives (s := pure (a.eval x)) (fun c => by simp) (by simp [execOp, hc', asBool]) (Gives.pure h rfl (opv_ok hf h3)) hK
    · obtain ⟨u2, h3, h4⟩ := some_bind h2
      simp at h4; obtain ⟨rfl, rfl⟩ := h4
      have hc' := hc.of_bool
      exact wp_of_gives (s := pure (a.eval y)) (fun c => by simp) (by simp [execOp, hc', asBool]) (Gives.pure h rfl (opv_ok hf h3)) hK
    · simp at h2
  | alloc t => exact wp_of_gives (s := Instr.alloc t true (.tuple #[])) (fun c => by simp) rfl (alloc_ok hE h (by simpa only [aOp] using ho)) hK
  | box t x =>
    simp only [aOp] at ho
    obtain ⟨u, h1, h2⟩ := some_bind ho
    exact wp_of_gives (s := Instr.box t (a.eval x)) (fun c => by simp) rfl (box_ok h (opv_ok hf h1) h2) hK
  | build t ps =>
    simp only [aOp] at ho
    obtain ⟨us, h1, h2⟩ := some_bind ho
    obtain ⟨u, h3, h4⟩ := some_bind h2
    simp at h4; obtain ⟨rfl, rfl⟩ := h4
    exact wp_of_gives (s := Instr.build t (ps.map fun (i, x) => (i, a.eval x))) (fun c => by simp) rfl (build_ok hE h (qs := ps.map fun (i, x) => (i, a.eval x)) (by simpa using aParts_ok hf h1) h3) hK
  | buildSlice t k ps =>
    simp only [aOp] at ho
    obtain ⟨us, h1, h2⟩ := some_bind ho
    have hp : PL M us (ps.map fun (i, x) => (i, a.eval x)).toList := by simpa using aParts_ok hf h1
    have hg := buildSlice_ok hE h hp h2
    have he : execOp a.eval ⟨dst, .buildSlice t k ps, ty, pos, after, guard⟩ = (do pure (.value (← Instr.buildSlice t k (ps.map fun (i, x) => (i, a.eval x))))) := rfl
    exact wp_of_gives (fun c => by simp) he hg hK
  | load t x =>
    simp only [aOp] at ho
    obtain ⟨u, h1, h2⟩ := some_bind ho
    obtain ⟨u2, h3, h4⟩ := some_bind h2
    simp at h4; obtain ⟨rfl, rfl⟩ := h4
    exact wp_of_gives (s := Instr.loadAt t (a.eval x)) (fun c => by simp) rfl (load_ok hE h (opv_ok hf h1) h3) hK
  | store t x y =>
    simp only [aOp] at ho
    obtain ⟨u, h1, h2⟩ := some_bind ho
    obtain ⟨u2, h3, h4⟩ := some_bind h2
    obtain ⟨H2, h5, h6⟩ := some_bind h4
    simp at h6; obtain ⟨rfl, rfl⟩ := h6
    obtain ⟨w', g1, g2⟩ := store_ok hE h (opv_ok hf h1) (opv_ok hf h3) h5
    exact wp_of_unit (fun c => by simp) rfl g1 (hK _ _ _ g2 (.undef _))
  | nilCheck x =>
    simp only [aOp] at ho
    obtain ⟨u, h1, h2⟩ := some_bind ho
    have hx := opv_ok hf h1
    split at h2
    · simp at h2; obtain ⟨rfl, rfl⟩ := h2
      refine wp_of_gives (s := pure (a.eval x)) (fun c => by simp) ?_ (Gives.pure h rfl hx) hK
      obtain ⟨b', hb'⟩ : ∃ b', a.eval x = .pointer (some b') := by
        generalize hq : a.eval x = q at hx
        cases hx; exact ⟨_, rfl⟩
      simp [execOp, hb']
    · simp at h2; obtain ⟨rfl, rfl⟩ := h2
      refine wp_of_gives (s := pure (a.eval x)) (fun c => by simp) ?_ (Gives.pure h rfl hx) hK
      obtain ⟨f, us, vs, hb'⟩ : ∃ f us vs, a.eval x = .func (.func f) us vs := by
        generalize hq : a.eval x = q at hx
        cases hx; exact ⟨_, _, _, rfl⟩
      simp [execOp, hb']
    · simp at h2; obtain ⟨rfl, rfl⟩ := h2
      refine wp_of_gives (s := pure (a.eval x)) (fun c => by simp) ?_ (Gives.pure h rfl hx) hK
      obtain ⟨l, hb'⟩ : ∃ l, a.eval x = .func (.yield l) #[] #[] := by
        generalize hq : a.eval x = q at hx
        cases hx; exact ⟨_, rfl⟩
      simp [execOp, hb']
    · simp at h2
  | binOp op t x y t2 =>
    simp only [aOp] at ho
    obtain ⟨u, h1, h2⟩ := some_bind ho
    obtain ⟨u2, h3, h4⟩ := some_bind h2
    obtain ⟨r, h5, h6⟩ := some_bind h4
    simp at h6; obtain ⟨rfl, rfl⟩ := h6
    exact wp_of_gives (s := do eqGuard op t x y (a.eval x) (a.eval y); binOp op t (a.eval x) (a.eval y)) (fun c => by simp) rfl (bin_ok hE h (opv_ok hf h1) (opv_ok hf h3) h5) hK
  | unOp op t x =>
    simp only [aOp] at ho
    obtain ⟨u, h1, h2⟩ := some_bind ho
    obtain ⟨r, h5, h6⟩ := some_bind h2
    simp at h6; obtain ⟨rfl, rfl⟩ := h6
    exact wp_of_gives (s := Op.unary op (a.eval x)) (fun c => by simp) rfl (unary_ok h (opv_ok hf h1) h5) hK
  | convert s d x =>
    simp only [aOp] at ho
    obtain ⟨u, h1, h2⟩ := some_bind ho
    obtain ⟨r, h5, h6⟩ := some_bind h2
    simp at h6; obtain ⟨rfl, rfl⟩ := h6
    exact wp_of_gives (s := convert s d (a.eval x)) (fun c => by simp) rfl (convert_ok hE h (opv_ok hf h1) h5) hK
  | makeFunc f first caps =>
    cases f with
    | func g =>
      simp only [aOp] at ho
      obtain ⟨xs, h1, h2⟩ := some_bind ho
      obtain ⟨ys, h3, h4⟩ := some_bind h2
      simp at h4; obtain ⟨rfl, rfl⟩ := h4
      refine wp_of_gives (fun c => by simp) rfl (Gives.pure h rfl ?_) hK
      have g1 := opvs_ok hf h1
      have g2 := opvs_ok hf h3
      refine .func (by simpa using g1.1) (by simpa using g2.1) ?_ ?_
      · intro i x u hx hu
        exact g1.2 i x u (by simpa using hx) (by simpa using hu)
      · intro i x u hx hu
        exact g2.2 i x u (by simpa using hx) (by simpa using hu)
    | _ => simp [aOp] at ho
  | makeSlice t l c =>
    simp only [aOp] at ho
    obtain ⟨u, h1, h2⟩ := some_bind ho
    obtain ⟨u2, h3, h4⟩ := some_bind h2
    exact wp_of_gives (s := Instr.makeSlice t (a.eval l) (a.eval c)) (fun c => by simp) rfl (makeSlice_ok hE h (opv_ok hf h1) (opv_ok hf h3) h4) hK
  | slice t x lo0 hi0 mx0 =>
    simp only [aOp] at ho
    obtain ⟨u, h1, h2⟩ := some_bind ho
    obtain ⟨lo, h3, h4⟩ := some_bind h2
    obtain ⟨hi, h5, h6⟩ := some_bind h4
    obtain ⟨mx, h7, h8⟩ := some_bind h6
    obtain ⟨r, h9, h10⟩ := some_bind h8
    simp at h10; obtain ⟨rfl, rfl⟩ := h10
    exact wp_of_gives (s := Instr.sliceAt t (a.eval x) (lo0.map a.eval) (hi0.map a.eval) (mx0.map a.eval)) (fun c => by simp) rfl (sliceAt_ok hE h (opv_ok hf h1) (opvo_ok hf h3) (opvo_ok hf h5) (opvo_ok hf h7) h9) hK
  | makeMap t r =>
    cases r with
    | none =>
      simp [aOp] at ho; obtain ⟨rfl, rfl⟩ := ho
      exact wp_of_gives (s := Instr.makeMap t none) (fun c => by simp) rfl (makeMap_ok h) hK
    | some r => simp [aOp] at ho
  | lookup t x i ok =>
    simp only [aOp] at ho
    obtain ⟨u, h1, h2⟩ := some_bind ho
    obtain ⟨u2, h3, h4⟩ := some_bind h2
    obtain ⟨r, h5, h6⟩ := some_bind h4
    simp at h6; obtain ⟨rfl, rfl⟩ := h6
    exact wp_of_gives (s := Instr.lookup t (a.eval x) (a.eval i) ok) (fun c => by simp) rfl (lookup_ok hE h (opv_ok hf h1) (opv_ok hf h3) h5) hK
  | mapUpdate t m k x =>
    simp only [aOp] at ho
    obtain ⟨u, h1, h2⟩ := some_bind ho
    obtain ⟨u2, h3, h4⟩ := some_bind h2
    obtain ⟨u3, h5, h6⟩ := some_bind h4
    obtain ⟨H2, h7, h8⟩ := some_bind h6
    simp at h8; obtain ⟨rfl, rfl⟩ := h8
    obtain ⟨w', g1, g2⟩ := mapUpdate_ok hE h (opv_ok hf h1) (opv_ok hf h3) (opv_ok hf h5) h7
    exact wp_of_unit (fun c => by simp) rfl g1 (hK _ _ _ g2 (.undef _))
  | fieldAddr t x i =>
    simp only [aOp] at ho
    obtain ⟨u, h1, h2⟩ := some_bind ho
    obtain ⟨r, h5, h6⟩ := some_bind h2
    simp at h6; obtain ⟨rfl, rfl⟩ := h6
    exact wp_of_gives (s := Instr.fieldAt t (a.eval x) i) (fun c => by simp) rfl (fieldAt_ok hE h (opv_ok hf h1) h5) hK
  | field t x i =>
    simp only [aOp] at ho
    obtain ⟨u, h1, h2⟩ := some_bind ho
    obtain ⟨r, h5, h6⟩ := some_bind h2
    simp at h6; obtain ⟨rfl, rfl⟩ := h6
    exact wp_of_gives (s := Instr.field t (a.eval x) i) (fun c => by simp) rfl (field_ok hE h (opv_ok hf h1) h5) hK
  | indexAddr t x i =>
    simp only [aOp] at ho
    obtain ⟨u, h1, h2⟩ := some_bind ho
    obtain ⟨u2, h3, h4⟩ := some_bind h2
    obtain ⟨r, h5, h6⟩ := some_bind h4
    simp at h6; obtain ⟨rfl, rfl⟩ := h6
    exact wp_of_gives (s := Instr.indexAt t (a.eval x) (a.eval i)) (fun c => by simp) rfl (indexAt_ok hE h (opv_ok hf h1) (opv_ok hf h3) h5) hK
  | index t x i =>
    simp only [aOp] at ho
    obtain ⟨u, h1, h2⟩ := some_bind ho
    obtain ⟨u2, h3, h4⟩ := some_bind h2
    obtain ⟨r, h5, h6⟩ := some_bind h4
    simp at h6; obtain ⟨rfl, rfl⟩ := h6
    exact wp_of_gives (s := Instr.index t (a.eval x) (a.eval i)) (fun c => by simp) rfl (index_ok hE h (opv_ok hf h1) (opv_ok hf h3) h5) hK
  | extract x i =>
    simp only [aOp] at ho
    obtain ⟨u, h1, h2⟩ := some_bind ho
    obtain ⟨r, h5, h6⟩ := some_bind h2
    simp at h6; obtain ⟨rfl, rfl⟩ := h6
    exact wp_of_gives (s := Instr.extract (a.eval x) i) (fun c => by simp) rfl (extract_ok h (opv_ok hf h1) h5) hK
  | insert t m k x =>
    simp only [aOp] at ho
    obtain ⟨u, h1, h2⟩ := some_bind ho
    obtain ⟨u2, h3, h4⟩ := some_bind h2
    obtain ⟨u3, h5, h6⟩ := some_bind h4
    obtain ⟨H2, h7, h8⟩ := some_bind h6
    simp at h8; obtain ⟨rfl, rfl⟩ := h8
    obtain ⟨w', g1, g2⟩ := mapUpdate_ok hE h (opv_ok hf h1) (opv_ok hf h3) (opv_ok hf h5) h7
    exact wp_of_unit (fun c => by simp) rfl g1 (hK _ _ _ g2 (.undef _))
  | range t x =>
    simp only [aOp] at ho
    obtain ⟨u, h1, h2⟩ := some_bind ho
    exact wp_of_gives (s := Instr.range t (a.eval x)) (fun c => by simp) rfl (rangeStr_ok hE h (opv_ok hf h1) h2) hK
  | next x st =>
    cases st with
    | true =>
      simp only [aOp] at ho
      obtain ⟨u, h1, h2⟩ := some_bind ho
      exact wp_of_gives (s := Instr.next (a.eval x) true ty) (fun c => by simp) rfl (nextStr_ok h (opv_ok hf h1) h2) hK
    | false => simp [aOp] at ho
  | call c => exact absurd ⟨c, rfl⟩ hc
  | _ => simp [aOp] at ho

end Go.Proofs.YthgfjbafhjkhnaaGreat.Zq
