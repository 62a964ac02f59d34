/- What a closed function answers on nothing, it answers anywhere, and what is known stays as it is. -/
import Derived.Test.YtkijgkagfkapjaaGreatDoorZwHeap
import Derived.Test.YtkijgkagfkapjaaGreatDoorZqFast3
namespace Go.Proofs.YtkijgkagfkapjaaGreatDoor.Zq
variable {P : Program}
theorem BR.sameAll {M : Mp} {e : Ent} {k : ABlk} {w w' : World} (h : BR M e k w) (f : ∀ c : Nat, c < w.heap.size → w'.heap[c]? = w.heap[c]?) : BR M e k w' := by
  have key : ∀ o, w.heap[e.blk]? = some o → w'.heap[e.blk]? = some o := fun o ho => by
    rw [f e.blk (Array.getElem?_eq_some_iff.1 ho).1]; exact ho
  cases k with
  | row cells sz opn ro live =>
    obtain ⟨h1, h2, h3, h4⟩ := h
    refine ⟨h1, h2, h3, fun hl => ?_⟩
    obtain ⟨c, t, fz, g1, g2⟩ := h4 hl
    exact ⟨c, t, fz, key _ g1, g2⟩
  | map es clock =>
    obtain ⟨es', g1, g2⟩ := h
    exact ⟨es', key _ g1, g2⟩
  | iter s pos => exact ⟨h.1, key _ h.2⟩
  | loop st pend fr ps asg body hb =>
    obtain ⟨L, g1, g2⟩ := h
    exact ⟨L, key _ g1, g2⟩

theorem EV.closed {g : FuncId} (h : EV P g [] [] fun v _ => v = .bool true) {H : Heap} {Q : Value → Heap → Prop} (hq : Q (.bool true) H) : EV P g [] H Q := by
  refine ⟨h.1, fun n M w args' hr hv => ?_⟩
  have ha := hv.of_nil
  subst ha
  refine (h.2 n [] w [] (HR.nil w) (VL.nil _)).mono ?_
  rintro e w' ⟨v, v', M', H', rfl, hs, hb, rfl⟩
  have := hb.of_bool
  subst this
  have hf : ∀ c : Nat, c < w.heap.size → w'.heap[c]? = w.heap[c]? := fun c hc => hs.frame c hc fun b e hb => by simp at hb
  refine ⟨_, _, M, H, rfl, ⟨.refl M, ⟨hr.len, fun b e k h1 h2 => (hr.blk b e k h1 h2).sameAll hf, hr.sep⟩, hs.os, hs.output, hs.tape, hs.size, fun c hc _ => hf c hc, fun b e h1 h2 _ => ⟨b, e, h1, h2, rfl⟩, fun _ h1 => ⟨h1, rfl⟩, fun b e h1 h2 _ => ⟨b, e, h1, h2, rfl⟩⟩, .bool _, hq⟩
/-- A closed function, by the old evaluator. -/
theorem CALL.closed {call : CallT} (hC : CallOk P call) {g : FuncId} {Hx : Heap} (h : call (.fn g) [] [] = some (.bool true, Hx)) {H : Heap} {k : Bool × Unit → Heap → Prop} (hk : k (true, ()) H) : CALL P [T_bool] g [] H k := by
  refine EV.closed ?_ ⟨(true, ()), rfl, hk⟩
  have := call_ev hC (rs := [T_bool]) (x := (true, ())) (k := fun x _ => x.1 = true) h rfl
  refine EV.mono this ?_
  rintro v H' ⟨x, rfl, hx⟩
  show Value.bool x.1 = _
  rw [hx]
def saysTrue : Option (Value × Heap) → Bool
  | some (.bool true, _) => true
  | _ => false
theorem CALL.closedB {call : CallT} (hC : CallOk P call) {g : FuncId} (h : saysTrue (call (.fn g) [] []) = true) {H : Heap} {k : Bool × Unit → Heap → Prop} (hk : k (true, ()) H) : CALL P [T_bool] g [] H k := by
  unfold saysTrue at h
  split at h
  · rename_i Hx hx
    exact CALL.closed hC hx hk
  · cases h
/-- The same, by the fast evaluator. -/
theorem CALL.closedF {E : Env} {n : Nat} (hC : CallOk P (aFn E n)) {g : FuncId} (h : yes (fFn E n (.fn g) [] 0 .nil trueK) = true) {H : Heap} {k : Bool × Unit → Heap → Prop} (hk : k (true, ()) H) : CALL P [T_bool] g [] H k := by
  obtain ⟨Hx, hx⟩ := fast_true h
  exact CALL.closed hC hx hk
end Go.Proofs.YtkijgkagfkapjaaGreatDoor.Zq
