/- What a closed function answers on nothing, it answers anywhere, and what is known stays as it is. -/
import Derived.Test.YthgfjbafhjkhnaaGreatZwHeap
import Derived.Test.YthgfjbafhjkhnaaGreatZqFast
namespace Go.Proofs.YthgfjbafhjkhnaaGreat.Zq
variable {P : Program}
theorem BR.sameAll {M : Mp} {e : Ent} {k : ABlk} {w w' : World} (h : BR M e k w) (f : ∀ c : Nat, c < w.heap.size → w'.heap[c]? = w.heap[c]?) : BR M e k w' := by
  have key : ∀ o, w.heap[e.blk]? = some o → w'.heap[e.blk]? = some o := fun o ho => by
    rw [f e.blk (Array.getElem?_eq_some_iff.1 ho).1]; exact ho
  cases k with
  | row cells sz opn ro live =>
    obtain ⟨h1, h2, h3, h4⟩ := h
    refine ⟨h1, h2, h3, fun hl => ?_⟩
    obtain ⟨c, t, fz, g1, g2⟩ := h4 hl
    exact ⟨c, t, fz, key _ g1, g2⟩
  | map es clock =>
    obtain ⟨es', g1, g2⟩ := h
    exact ⟨es', key _ g1, g2⟩
  | iter s pos => exact ⟨h.1, key _ h.2⟩
  | loop st pend fr ps asg body hb =>
    obtain ⟨L, g1, g2⟩ := h
    exact ⟨L, key _ g1, g2⟩

theorem EV.closed {g : FuncId} (h : EV P g [] [] fun v _ => v = .bool true) {H : Heap} {Q : Value → Heap → Prop} (hq : Q (.bool true) H) : EV P g [] H Q := by
  refine ⟨h.1, fun n M w args' hr hv => ?_⟩
  have ha := hv.of_nil
  subst ha
  refine (h.2 n [] w [] (HR.nil w) (VL.nil _)).mono ?_
  rintro e w' ⟨v, v', M', H', rfl, hs, hb, rfl⟩
  have := hb.of_bool
  subst this
  have hf : ∀ c : Nat, c < w.heap.size → w'.heap[c]? = w.heap[c]? := fun c hc => hs.frame c hc fun b e hb => by simp at hb
  refine ⟨_, _, M, H, rfl, ⟨.refl M, ⟨hr.len, fun b e k h1 h2 => (hr.blk b e k h1 h2).sameAll hf, hr.sep⟩, hs.os, hs.output, hs.tape, hs.size, hs.dr, fun c hc _ => hf c hc, fun b e h1 h2 _ => ⟨b, e, h1, h2, rfl⟩, fun _ h1 => ⟨h1, rfl⟩, fun b e h1 h2 _ => ⟨b, e, h1, h2, rfl⟩⟩, .bool _, hq⟩
/-- A closed function, by the old evaluator. -/
theorem CALL.closed {call : CallT} (hC : CallOk P call) {g : FuncId} {Hx : Heap} (h : call (.fn g) [] [] = some (.bool true, Hx)) {H : Heap} {k : Bool × Unit → Heap → Prop} (hk : k (true, ()) H) : CALL P [T_bool] g [] H k := by
  refine EV.closed ?_ ⟨(true, ()), rfl, hk⟩
  have := call_ev hC (rs := [T_bool]) (x := (true, ())) (k := fun x _ => x.1 = true) h rfl
  refine EV.mono this ?_
  rintro v H' ⟨x, rfl, hx⟩
  show Value.bool x.1 = _
  rw [hx]
def saysTrue : Option (Value × Heap) → Bool
  | some (.bool true, _) => true
  | _ => false
theorem CALL.closedB {call : CallT} (hC : CallOk P call) {g : FuncId} (h : saysTrue (call (.fn g) [] []) = true) {H : Heap} {k : Bool × Unit → Heap → Prop} (hk : k (true, ()) H) : CALL P [T_bool] g [] H k := by
  unfold saysTrue at h
  split at h
  · rename_i Hx hx
    exact CALL.closed hC hx hk
  · cases h
theorem VR.flat1_eq {M : Mp} {v v' : Value} (h : Zq.flat1 v = true) (k : VR M v v') : v' = v := by
  cases k <;> first | rfl | (simp [Zq.flat1] at h)
theorem VR.flat_eq {M : Mp} {v v' : Value} (h : Zq.flat v = true) (k : VR M v v') : v' = v := by
  cases k with
  | agg hx gx =>
    rename_i xs us
    have h : xs.toList.all Zq.flat1 = true := h
    congr 1
    refine Array.ext hx.symm fun i h1 h2 => ?_
    exact VR.flat1_eq (List.all_eq_true.1 h _ (by simp)) (gx i _ _ (Array.getElem?_eq_getElem h2) (Array.getElem?_eq_getElem h1))
  | tuple hx gx =>
    rename_i xs us
    have h : xs.toList.all Zq.flat1 = true := h
    congr 1
    refine Array.ext hx.symm fun i h1 h2 => ?_
    exact VR.flat1_eq (List.all_eq_true.1 h _ (by simp)) (gx i _ _ (Array.getElem?_eq_getElem h2) (Array.getElem?_eq_getElem h1))
  | _ => exact VR.flat1_eq (M := M) h (by constructor <;> assumption)
theorem VL.flat_eq {M : Mp} : ∀ {vs us : List Value}, vs.all flat = true → VL M vs us → us = vs
  | [], us, _, k => k.of_nil
  | v :: vs, us, h, k => by
    obtain ⟨u, us', rfl, h1, h2⟩ := k.of_cons
    simp only [List.all_cons, Bool.and_eq_true] at h
    rw [VR.flat_eq h.1 h1, VL.flat_eq h.2 h2]
theorem VL.flat_refl {M : Mp} : ∀ {vs : List Value}, vs.all flat = true → VL M vs vs
  | [], _ => VL.nil M
  | v :: vs, h => by
    simp only [List.all_cons, Bool.and_eq_true] at h
    exact VL.cons (VR.flat h.1) (VL.flat_refl h.2)
theorem EV.closedA {g : FuncId} {args : List Value} (ha : args.all flat = true) (h : EV P g args [] fun v _ => v = .bool true) {H : Heap} {Q : Value → Heap → Prop} (hq : Q (.bool true) H) : EV P g args H Q := by
  refine ⟨h.1, fun n M w args' hr hv => ?_⟩
  have ha' := VL.flat_eq ha hv
  subst ha'
  refine (h.2 n [] w _ (HR.nil w) (VL.flat_refl ha)).mono ?_
  rintro e w' ⟨v, v', M', H', rfl, hs, hb, rfl⟩
  have := hb.of_bool
  subst this
  have hf : ∀ c : Nat, c < w.heap.size → w'.heap[c]? = w.heap[c]? := fun c hc => hs.frame c hc fun b e hb => by simp at hb
  refine ⟨_, _, M, H, rfl, ⟨.refl M, ⟨hr.len, fun b e k h1 h2 => (hr.blk b e k h1 h2).sameAll hf, hr.sep⟩, hs.os, hs.output, hs.tape, hs.size, hs.dr, fun c hc _ => hf c hc, fun b e h1 h2 _ => ⟨b, e, h1, h2, rfl⟩, fun _ h1 => ⟨h1, rfl⟩, fun b e h1 h2 _ => ⟨b, e, h1, h2, rfl⟩⟩, .bool _, hq⟩
/-- A function of plain arguments that answers true there, by the fast evaluator. -/
theorem CALL.closedFA {E : Env} {n : Nat} (hC : CallOk P (aFn E n)) {g : FuncId} {args : List Value} (ha : args.all flat = true) (h : yes (fFn E n (.fn g) args 0 .nil trueK) = true) {H : Heap} {k : Bool × Unit → Heap → Prop} (hk : k (true, ()) H) : CALL P [T_bool] g args H k := by
  obtain ⟨Hx, hx⟩ := fast_trueA h
  refine EV.closedA ha ?_ ⟨(true, ()), rfl, hk⟩
  have := call_ev hC (rs := [T_bool]) (x := (true, ())) (k := fun x _ => x.1 = true) hx rfl
  refine EV.mono this ?_
  rintro v H' ⟨x, rfl, hx⟩
  show Value.bool x.1 = _
  rw [hx]
/-- The same, by the fast evaluator. -/
theorem CALL.closedF {E : Env} {n : Nat} (hC : CallOk P (aFn E n)) {g : FuncId} (h : yes (fFn E n (.fn g) [] 0 .nil trueK) = true) {H : Heap} {k : Bool × Unit → Heap → Prop} (hk : k (true, ()) H) : CALL P [T_bool] g [] H k := by
  obtain ⟨Hx, hx⟩ := fast_true h
  exact CALL.closed hC hx hk
/-- The same, its calls by entries. -/
theorem CALL.closedO {E : Env} {n : Nat} (hC : CallOk P (aFn E (n + 1))) {es : List En} (hv : ∀ e ∈ es, Valid (aFn E n) e) {g : FuncId} (h : yes (fStep E n (orc es (fFn E n)) (.fn g) [] 0 .nil trueK) = true) {H : Heap} {k : Bool × Unit → Heap → Prop} (hk : k (true, ()) H) : CALL P [T_bool] g [] H k := by
  obtain ⟨Hx, hx⟩ := orc_true hv h
  exact CALL.closed hC hx hk
end Go.Proofs.YthgfjbafhjkhnaaGreat.Zq
