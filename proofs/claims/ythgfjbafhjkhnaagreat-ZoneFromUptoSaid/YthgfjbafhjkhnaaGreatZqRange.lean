/- Loops over functions: the statement. -/
import Derived.Test.YthgfjbafhjkhnaaGreatZqCode
namespace Go.Proofs.YthgfjbafhjkhnaaGreat.Zq
variable {P : Program} {E : Env} {M : Mp} {H H' : Heap} {w : World} {call : CallT} {ro : Option Nat} {n : Nat} {fr fr' : AFr} {a : Act}

set_option maxHeartbeats 2000000 in
/-- A LOOP OVER A FUNCTION: the record is laid, the function is called with yield, and what a round has left is done. -/
theorem range_ok (hC : CallOk P call) {f : Operand} {ps : Array Tmp} {asg body asg' body' : Code} {h hb' : Hint} {g : FuncId} {xs ys : Array Value} {res : Value} {H2 : Heap} {st : LoopState} {pend : Option Ex} {frl : AFr} {ps' : List Nat}
    (h1 : opv fr f = some (.func (.func g) xs ys)) (h3 : call (.fn g) (xs.toList ++ [.func (.yield H.length) #[] #[]] ++ ys.toList) (H ++ [.loop .ready none fr ps.toList asg body h]) = some (res, H2))
    (hl2 : H2[H.length]? = some (.loop st pend frl ps' asg' body' hb')) (hst : ¬ st = .busy) {n : Nat} {M : Mp} {a : Act} {w : World} (hr : HR M H w) (hf : FR M fr a.tmps) :
    (Code.rangeFunc f ps asg body).wpIn (Fw none) n P (fun x a' w' => ExR (pend.getD .normal) x ∧ ∃ M', Stp M H w M' (H2.set H.length (.loop .exhausted pend frl ps' asg' body' hb')) w' ∧ FR M' fr a'.tmps ∧ Marks w w' a.defers a'.defers) a w := by
  refine wpIn_rangeFunc fun fn _ => ?_
  have hfv := opv_ok hf h1
  obtain ⟨us, ws, hfe, hu, hw⟩ : ∃ us ws, a.eval f = .func (.func g) us ws ∧ VL M xs.toList us.toList ∧ VL M ys.toList ws.toList := by
    generalize hq : a.eval f = q at hfv
    cases hfv with
    | func hx hy gx gy =>
      exact ⟨_, _, rfl, ⟨by simpa using hx, fun i x u hx hu => gx i x u (by simpa using hx) (by simpa using hu)⟩, ⟨by simpa using hy, fun i x u hx hu => gy i x u (by simpa using hx) (by simpa using hu)⟩⟩
  have s1 := Stp.hidden hr (.deferred (some []))
  let L0 : Loop := { state := .ready, pending := none, fn, tmps := a.tmps, params := ps, assign := asg, body, defers := w.heap.size }
  let en : Ent := ⟨w.heap.size + 1, 0, false, 0, 0, 0⟩
  have hw1s : (w.alloc (.deferred (some []))).heap.size = w.heap.size + 1 := by simp
  have s2 := Stp.newBlk (o := .loop L0) (k := .loop .ready none fr ps.toList asg body h) s1.hr en (by rw [hw1s]) ⟨L0, by
      show ((w.alloc (.deferred (some []))).heap.push _)[w.heap.size + 1]? = _
      rw [Array.getElem?_push, if_pos (by rw [hw1s])], rfl, trivial, hf.mono (Ext.app M [some en]), rfl, rfl, rfl⟩
  have s12 := s1.trans s2
  have hdef : ((w.alloc (.deferred (some []))).alloc (.loop L0)).heap[w.heap.size]? = some (.deferred (some [])) := by
    show (((w.heap.push _).push _))[w.heap.size]? = _
    rw [Array.getElem?_push, if_neg (by simp), Array.getElem?_push, if_pos rfl]
  obtain ⟨⟨fng, q1, q2, q3⟩, q4⟩ := hC.fn _ _ _ _ _ h3
  have hargs : VL (M ++ [some en]) (xs.toList ++ [.func (.yield H.length) #[] #[]] ++ ys.toList) (us.toList ++ [.func (.yield (w.heap.size + 1)) #[] #[]] ++ ws.toList) :=
    ((hu.mono s2.ext).append (.cons (.yield (get_new hr en)) (.nil _))).append (hw.mono s2.ext)
  have hcall := q4 (n - 1) (M ++ [some en]) _ _ s2.hr hargs
  have hbn : fng.body.isNone = false := by cases hb : fng.body <;> simp_all
  refine ⟨w.heap.size + 1, [{ target := .collected w.heap.size, args := #[] }], (w.alloc (.deferred (some []))).alloc (.loop L0), { target := .fn (.func g) ws, args := us ++ #[Value.func (.yield (w.heap.size + 1)) #[] #[]] }, (w.alloc (.deferred (some []))).alloc (.loop L0), g, (us.toList ++ [Value.func (.yield (w.heap.size + 1)) #[] #[]] ++ ws.toList).toArray, (w.alloc (.deferred (some []))).alloc (.loop L0), ?_, ?_, fun _ _ => trivial, ?_, by simp [Fw, Fence.wide], (callsIn_round hcall).mono ?_⟩
  · simp only [Instr.enterLoop, Fw, Sem.run_bind, run_newObj, Result.andThen_ok, Sem.run_pure, World.alloc_eq]
    rw [hw1s]
  · have he : (rangeCall f (w.heap.size + 1)).args.map a.eval = #[Value.func (.yield (w.heap.size + 1)) #[] #[]] := by simp only [List.map_toArray, List.map_cons, List.map_nil]; rfl
    simp only [resolve]
    rw [hfe, he]
    simp only [Deferred.ofValue, Sem.run_pure]
  · simp only [invoke, callFunc, Sem.run_bind, run_program, Result.andThen_ok, q1, q3, Bool.false_eq_true, if_false, hbn, Sem.run_pure]
    congr 2
    apply Array.ext'; simp
  · rintro e w3 ⟨v', M', rfl, hs, _⟩
    have hen : M'[H.length]? = some (some en) := hs.ext _ _ (get_new hr en)
    obtain ⟨L, k1, k2, k3, k4⟩ := hs.hr.blk _ _ _ hen hl2
    have hgl : (Instr.getLoop (w.heap.size + 1)).run P w3 = .ok L w3 := by
      have : w3.heap[w.heap.size + 1]? = some (.loop L) := k1
      simp [Instr.getLoop, getObj, Sem.run, this]
    have hso : ∀ o, (setObj (w.heap.size + 1) o).run P w3 = .ok () { w3 with heap := w3.heap.setIfInBounds (w.heap.size + 1) o } := fun o => by
      have : w3.heap[w.heap.size + 1]? = some (.loop L) := k1
      simp [setObj, Sem.run, this]
    have hlt : w.heap.size + 1 < w3.heap.size := (Array.getElem?_eq_some_iff.1 k1).1
    have hnb : (L.state == .busy) = false := by rw [k2]; simpa using hst
    have hl2l : H.length < H2.length := (List.getElem?_eq_some_iff.1 hl2).1
    have s4 := Stp.setBlk (k' := .loop .exhausted pend frl ps' asg' body' hb') (o' := .loop { L with state := .exhausted }) hs.hr hl2 hen (by unfold writB; rw [hl2]; trivial) (by unfold writB; rw [List.getElem?_set_self hl2l]; trivial)
      ⟨{ L with state := .exhausted }, by simp [en, hlt], rfl, k3, k4⟩
    have sall := (s12.trans hs).trans s4
    have hmarks : Marks w { w3 with heap := w3.heap.setIfInBounds en.blk (.loop { L with state := .exhausted }) } a.defers ([{ target := .collected w.heap.size, args := #[] }] ++ a.defers) := by
      refine ⟨[w.heap.size], rfl, by simp, fun r hr' => ?_⟩
      simp at hr'; subst hr'
      exact ⟨Nat.le_refl _, deferred_kept hs.hr s4 (deferred_kept s2.hr hs hdef)⟩
    refine ⟨L.pending, { w3 with heap := w3.heap.setIfInBounds (w.heap.size + 1) (.loop { L with state := .exhausted }) }, ?_, ?_⟩
    · simp only [Instr.endLoop, Sem.run_bind, hgl, Result.andThen_ok, hnb, Bool.false_eq_true, if_false, Sem.run_ite, Sem.run_pure, hso]
    · have hfin : ∃ M'', Stp M H w M'' (H2.set H.length (.loop .exhausted pend frl ps' asg' body' hb')) { w3 with heap := w3.heap.setIfInBounds (w.heap.size + 1) (.loop { L with state := .exhausted }) } ∧ FR M'' fr a.tmps ∧
          Marks w { w3 with heap := w3.heap.setIfInBounds (w.heap.size + 1) (.loop { L with state := .exhausted }) } a.defers ([{ target := .collected w.heap.size, args := #[] }] ++ a.defers) := ⟨M', sall, hf.mono sall.ext, hmarks⟩
      cases hp : L.pending with
      | none =>
        rw [hp] at k3 hfin
        cases pend with
        | none => exact ⟨trivial, hfin⟩
        | some e => cases e <;> exact k3.elim
      | some c =>
        rw [hp] at k3 hfin
        cases pend with
        | none => exact k3.elim
        | some e =>
          cases e with
          | normal => cases c <;> exact k3.elim
          | ret => cases c <;> first | exact k3.elim | exact wpIn_ret ⟨trivial, hfin⟩
          | exit i => cases c <;> first | exact k3.elim | exact wpIn_exit ⟨k3, hfin⟩

end Go.Proofs.YthgfjbafhjkhnaaGreat.Zq
